import Derived.Laws.StructEq
import Derived.Test.YtejnnghfelpioaaBEdGroup4
set_option maxRecDepth 4000
set_option linter.unusedVariables false
set_option linter.unusedSimpArgs false
namespace Go.Proofs.Ytejnnghfelpioaa
open Go.RowKit Go.Shelf
attribute [local go_sem] Oper.semAt_some
theorem iIn1 : (Try.prog.info? 3).map (·.size) = some 1 := by kernel_rfl
theorem oIn : oneT Try.prog 3 = true := by kernel_rfl
def bstep (x y : Nat) (p q s o : W4) (k c : Nat) : W4 :=
  if dbit x k = true then (if dbit y c = true then plusW (twiceW o) s else plusW (twiceW o) p) else (if dbit y c = true then plusW (twiceW o) q else twiceW o)
theorem bstep_t (x y : Nat) (p q s o : W4) (k c : Nat) (hp : TW p) (hq : TW q) (hs : TW s) (ho : TW o) : TW (bstep x y p q s o k c) := by
  unfold bstep
  split
  · split
    · exact plusW_t _ _ (twiceW_t _ ho) hs
    · exact plusW_t _ _ (twiceW_t _ ho) hp
  · split
    · exact plusW_t _ _ (twiceW_t _ ho) hq
    · exact twiceW_t _ ho
def bfold (x y : Nat) (p q s : W4) (l : List Nat) : W4 × Nat := l.foldl (fun st k => (bstep x y p q s st.1 k st.2, st.2 + 1)) (noneW, 0)
theorem bfold_snoc (x y : Nat) (p q s : W4) (l : List Nat) (k : Nat) : bfold x y p q s (l ++ [k]) = (bstep x y p q s (bfold x y p q s l).1 k (bfold x y p q s l).2, (bfold x y p q s l).2 + 1) := by
  unfold bfold; rw [List.foldl_append]; rfl
theorem bfold_len0 (x y : Nat) (p q s : W4) : ∀ (l : List Nat) (st : W4 × Nat), (l.foldl (fun st k => (bstep x y p q s st.1 k st.2, st.2 + 1)) st).2 = st.2 + l.length
  | [], st => rfl
  | k :: l, st => by rw [List.foldl_cons, bfold_len0 x y p q s l, List.length_cons]; simp only; omega
theorem bfold_len (x y : Nat) (p q s : W4) (l : List Nat) : (bfold x y p q s l).2 = l.length := by unfold bfold; rw [bfold_len0]; simp
theorem bfold_t0 (x y : Nat) (p q s : W4) (hp : TW p) (hq : TW q) (hs : TW s) : ∀ (l : List Nat) (st : W4 × Nat), TW st.1 → TW (l.foldl (fun st k => (bstep x y p q s st.1 k st.2, st.2 + 1)) st).1
  | [], st, h => h
  | k :: l, st, h => by rw [List.foldl_cons]; exact bfold_t0 x y p q s hp hq hs l _ (bstep_t _ _ _ _ _ _ _ _ hp hq hs h)
theorem bfold_t (x y : Nat) (p q s : W4) (hp : TW p) (hq : TW q) (hs : TW s) (l : List Nat) : TW (bfold x y p q s l).1 := bfold_t0 x y p q s hp hq hs l _ noneW_t
def bothW (x : Nat) (p : W4) (y : Nat) (q : W4) : W4 := (bfold x y p q (plusW p q) (List.range 256)).1
theorem bothW_t (x : Nat) (p : W4) (y : Nat) (q : W4) (hp : TW p) (hq : TW q) : TW (bothW x p y q) := bfold_t _ _ _ _ _ hp hq (plusW_t _ _ hp hq) _
set_option maxRecDepth 100000 in
set_option maxHeartbeats 16000000 in
theorem bothW_any (x : Nat) (p : W4) (y : Nat) (q : W4) (w : World) (hp : TW p) (hq : TW q) : Calls Try.prog 27 #[wd x, w4 p, wd y, w4 q] w fun e w' => e = .returned (w4 (bothW x p y q)) ∧ Below w.heap.size w w' := by
  have hN := hid fun w => none_any w
  have hD := hid fun w => edown_any x w
  have hS := hid fun w => plusW_any p q w hp hq
  have hTS := plusW_t p q hp hq
  have hres : bothW x p y q = (bfold x y p q (plusW p q) (List.range 256)).1 := rfl
  rw [hres]
  obtain ⟨s, hs⟩ : ∃ s, s = plusW p q := ⟨_, rfl⟩
  rw [← hs] at hS hTS ⊢
  have hT := hid fun o w (h : TW o) => twiceW_any o w h
  have hP1 := hid fun o w (h : TW o) => plusW_any o p w h hp
  have hP2 := hid fun o w (h : TW o) => plusW_any o q w h hq
  have hP3 := hid fun o w (h : TW o) => plusW_any o s w h hTS
  have hM := hid (bfold_t x y p q s hp hq hTS)
  clear hs hp hq hTS hres
  obtain ⟨w0, hw0, k4, k5, k6, k7, k8, hb0⟩ := entry5 w 25 (cellsW x) 66 (cells4 p) 25 (cellsW y) 66 (cells4 q) 66 (cells4 zero4)
  have hX0 := hid k4
  have hP0 := hid k5
  have hY0 := hid k6
  have hQ0 := hid k7
  have hR0 := hid k8
  clear k4 k5 k6 k7 k8
  unfold w4 wd at *
  refine (callsIn_wide (n := 3)).1 (callsIn_of_wp_marks Try.func27 rfl trivial (wpIn_wide.2 ?_) rfl)
  simp only [Try.ntmps27, List.size_toArray, List.length_cons, List.length_nil, Nat.reduceAdd, Nat.reduceSub, Array.replicate_succ, Array.replicate_zero, List.push_toArray, List.append_toArray, List.nil_append, List.cons_append]
  (repeat ((fail_if_success (with_reducible refine Go.at_region ?_)); go_step))
  refine wp_region_lit ?_
  (refine wpList_box 25 (.tmp 0) rfl rfl (cellsW x) rfl ?_; simp only [Act.put, pvA, pv0, pv1]; (try simp only [World.size_alloc]))
  (refine wpList_box 66 (.tmp 1) rfl rfl (cells4 p) rfl ?_; simp only [Act.put, pvA, pv0, pv1]; (try simp only [World.size_alloc]))
  (refine wpList_box 25 (.tmp 2) rfl rfl (cellsW y) rfl ?_; simp only [Act.put, pvA, pv0, pv1]; (try simp only [World.size_alloc]))
  (refine wpList_box 66 (.tmp 3) rfl rfl (cells4 q) rfl ?_; simp only [Act.put, pvA, pv0, pv1]; (try simp only [World.size_alloc]))
  (refine wpList_alloc_new rfl 66 rfl (cells4 zero4) z4 ?_; simp only [Act.put, pvA, pv0, pv1]; (try simp only [World.size_alloc]))
  refine wpList_nil ?_
  rw [← hw0]
  clear hw0
  go_wp2_with (first | (refine wpList_get _ _ rfl rfl _ rfl _ _ hP0.out g4 (i4 p) ?_; simp only [Act.put, pvA, pv0, pv1]) | (refine wpList_get _ _ rfl rfl _ rfl _ _ hQ0.out g4 (i4 q) ?_; simp only [Act.put, pvA, pv0, pv1]))
  refine (hS.out _).mono ?_
  rintro e w1 ⟨rfl, hs1⟩
  have hX1 := hid ((hX0.out.step hs1).alloc (.cells (cells4 s) 66))
  have hP1 := hid ((hP0.out.step hs1).alloc (.cells (cells4 s) 66))
  have hY1 := hid ((hY0.out.step hs1).alloc (.cells (cells4 s) 66))
  have hQ1 := hid ((hQ0.out.step hs1).alloc (.cells (cells4 s) 66))
  have hR1 := hid ((hR0.out.step hs1).alloc (.cells (cells4 s) 66))
  have hS1 := hid (Blk.new 66 w1 (cells4 s))
  have hc1 := hb0.trans (hs1.mono hb0.size)
  have hb1 := hc1.alloc hc1.size (.cells (cells4 s) 66)
  have hlt1 := (hR0.out.step hs1).lt
  obtain ⟨G9, hG9⟩ : ∃ G, G = w1.heap.size := ⟨_, rfl⟩
  have HG9 := hid hG9
  rw [← hG9] at hlt1
  clear hX0 hP0 hY0 hQ0 hR0 hb0 hs1 hc1 hG9
  go_wp2_with (refine wpList_allocStore 66 16 9 (cells4 s) (cells4 zero4) rfl rfl rfl rfl rfl rfl (by decide) (by simp) rfl (by kernel_rfl) rfl (i4 _) (one_cells4 _) ?_; simp only [Act.put, pvA, pv0, pv1])
  rw [← HG9.out] at hS1 ⊢
  generalize w1.alloc (.cells (cells4 s) 66) = w2 at hX1 hP1 hY1 hQ1 hR1 hS1 hb1 ⊢
  refine (hN.out _).mono ?_
  rintro e w3 ⟨rfl, hs3⟩
  have hX3 := hid (((hX1.out.step hs3).alloc (.cells (cells4 noneW) 66)).alloc (.cells #[.int .i64 255] 3))
  have hP3 := hid (((hP1.out.step hs3).alloc (.cells (cells4 noneW) 66)).alloc (.cells #[.int .i64 255] 3))
  have hY3 := hid (((hY1.out.step hs3).alloc (.cells (cells4 noneW) 66)).alloc (.cells #[.int .i64 255] 3))
  have hQ3 := hid (((hQ1.out.step hs3).alloc (.cells (cells4 noneW) 66)).alloc (.cells #[.int .i64 255] 3))
  have hR3 := hid (((hR1.out.step hs3).alloc (.cells (cells4 noneW) 66)).alloc (.cells #[.int .i64 255] 3))
  have hS3 := hid (((hS1.out.step hs3).alloc (.cells (cells4 noneW) 66)).alloc (.cells #[.int .i64 255] 3))
  have hO3 := hid ((Blk.new 66 w3 (cells4 noneW)).alloc (.cells #[.int .i64 255] 3))
  have hI3 := Blk.new 3 (w3.alloc (.cells (cells4 noneW) 66)) #[.int .i64 255]
  simp only [World.size_alloc] at hI3
  have hc3 := hb1.trans (hs3.mono hb1.size)
  have hb3 := (hc3.alloc hc3.size (.cells (cells4 noneW) 66)).alloc (by rw [World.size_alloc]; have := hc3.size; omega) (.cells #[.int .i64 255] 3)
  have hlt3 := (hS1.out.step hs3).lt
  obtain ⟨G, hG⟩ : ∃ G, G = w3.heap.size := ⟨_, rfl⟩
  have HG := hid hG
  rw [← hG] at hlt3 hI3
  have hI4 := hid hI3
  clear hX1 hP1 hY1 hQ1 hR1 hS1 hb1 hs3 hc3 hG hI3 HG9
  go_wp2_with (first | (refine wpList_allocStore 66 17 10 (cells4 noneW) (cells4 zero4) rfl rfl rfl rfl rfl rfl (by decide) (by simp) rfl (by kernel_rfl) rfl (i4 _) (one_cells4 _) ?_; simp only [Act.put, pvA, pv0, pv1]) | (refine wpList_get _ _ rfl rfl _ rfl _ _ hX3.out gWd (iW x) ?_; simp only [Act.put, pvA, pv0, pv1]))
  (try simp only [World.size_alloc])
  rw [← HG.out] at hO3 ⊢
  generalize (w3.alloc (.cells (cells4 noneW) 66)).alloc (.cells #[.int .i64 255] 3) = w4 at hX3 hP3 hY3 hQ3 hR3 hS3 hO3 hI4 hb3 ⊢
  clear HG
  refine (hD.out _).mono ?_
  rintro e w5 ⟨rfl, hs5, hB5⟩
  have hX5 := hid (hX3.out.step hs5)
  have hP5 := hid (hP3.out.step hs5)
  have hY5 := hid (hY3.out.step hs5)
  have hQ5 := hid (hQ3.out.step hs5)
  have hR5 := hid (hR3.out.step hs5)
  have hS5 := hid (hS3.out.step hs5)
  have hO5 := hid (hO3.out.step hs5)
  have hI5 := hid (hI4.out.step hs5)
  have hb5 := hb3.trans (hs5.mono hb3.size)
  have hG5 := hI4.out.lt
  have hB := hid hB5
  have hBl := hB5.lt
  obtain ⟨B, hBB⟩ : ∃ B, B = w4.heap.size := ⟨_, rfl⟩
  rw [← hBB] at hB hBl hG5 ⊢
  clear hX3 hP3 hY3 hQ3 hR3 hS3 hO3 hI4 hb3 hs5 hB5 hBB hX5
  go_wp2
  refine (wpIn_wide (n := 3)).1 (wpIn_rangeFunc_ownG rfl (by omega) (gf := 79) (lb := #[.pointer (some ⟨B, 0, none⟩)]) rfl trivial (enters_of Try.func79 (by kernel_rfl) rfl)
    (down_stops 2 x B w5 (by omega) hB.out) (fun h k => k.trans h) ?hKb (Below.refl _ _) (fun _ => rfl)
    (fun pre W => Hid (w5.two W G (G + 1) ∧ Blk 66 W G (cells4 (bfold x y p q s (pre.map Fin.val)).1) ∧ Blk 3 W (G + 1) #[.int .i64 (255 - ((bfold x y p q s (pre.map Fin.val)).2 : Int))])) (fun _ _ _ => False) ?hI (fun _ _ _ _ _ hs _ _ => hs) ?h0
    (fun k => { tmps := #[.agg (cellsW x), .agg (cells4 p), .agg (cellsW y), .agg (cells4 q), .pointer (some ⟨w.heap.size, 0, none⟩), .pointer (some ⟨w.heap.size + 1, 0, none⟩), .pointer (some ⟨w.heap.size + 1 + 1, 0, none⟩), .pointer (some ⟨w.heap.size + 1 + 1 + 1, 0, none⟩), .pointer (some ⟨w.heap.size + 1 + 1 + 1 + 1, 0, none⟩), .pointer (some ⟨G9, 0, none⟩), .pointer (some ⟨G, 0, none⟩), .pointer (some ⟨G + 1, 0, none⟩), .bool (dbit x k.val), undef, .agg (cells4 p), .agg (cells4 q), .agg (cells4 s), .agg (cells4 noneW), .agg (cellsW x), seqD B, .bool (dbit x k.val), undef, undef, undef, undef, undef, undef, undef, undef, undef, undef, undef, undef, undef, undef, undef, undef, undef, undef, undef, undef, undef, undef, undef, undef, undef, undef, undef, undef, undef, undef, undef, undef], defers := [] }) ?assign ?body ?done ?stop)
  case assign =>
    intro l k W K hK
    gi_wp2
    exact hK
  case hKb =>
    intro W l o o' hl _ _ _
    exact World.putObj_heap_other (by omega)
  case hI =>
    intro pre W W' row hs hg hr
    obtain ⟨h1, h2, h3⟩ := hs.out
    have hrow : ∀ j, row = some j → w5.heap.size ≤ j := fun j e => (hr j e).1
    exact hid ⟨h1.grown hg hrow, h2.grown hg (fun e => by have := hrow _ e.symm; omega), h3.grown hg (fun e => by have := hrow _ e.symm; omega)⟩
  case h0 => exact hid ⟨World.two.refl _ _ _, hO5.out, hI5.out⟩
  case stop => intro D c pre W _ _ h; exact h.elim
  case body =>
    intro l pre k W hI hlen
    obtain ⟨hg, hW, hJ⟩ := hI.out
    have hTo := hM.out (pre.map Fin.val)
    have hNx := bfold_snoc x y p q s (pre.map Fin.val) k.val
    have hcl := bfold_len x y p q s (pre.map Fin.val)
    rw [List.length_map] at hcl
    have hmp : (pre ++ [k]).map Fin.val = pre.map Fin.val ++ [k.val] := by rw [List.map_append]; rfl
    obtain ⟨o, ho⟩ : ∃ o, o = (bfold x y p q s (pre.map Fin.val)).1 := ⟨_, rfl⟩
    obtain ⟨c, hc⟩ : ∃ c, c = (bfold x y p q s (pre.map Fin.val)).2 := ⟨_, rfl⟩
    rw [← ho] at hW hTo hNx
    rw [← hc] at hJ hNx hcl
    rw [← hmp] at hNx
    obtain ⟨j, hj⟩ : ∃ j, j = 255 - c := ⟨_, rfl⟩
    have hji : (255 : Int) - (c : Int) = (j : Int) := by omega
    rw [hji] at hJ
    have hnext : (255 : Int) - ((c + 1 : Nat) : Int) = (j : Int) - 1 := by omega
    have hT1 := hid fun w => hT.out o w hTo
    have hTt := twiceW_t o hTo
    have hA1 := hid fun w => hP1.out (twiceW o) w hTt
    have hA2 := hid fun w => hP2.out (twiceW o) w hTt
    have hA3 := hid fun w => hP3.out (twiceW o) w hTt
    unfold bstep at hNx
    obtain ⟨b, hb⟩ : ∃ b, b = dbit x k.val := ⟨_, rfl⟩
    rw [← hb] at hNx ⊢
    rw [show dbit y c = decide (y / 2 ^ j % 2 = 1) by unfold dbit; rw [hj]] at hNx
    obtain ⟨t, ht⟩ : ∃ t, t = twiceW o := ⟨_, rfl⟩
    rw [← ht] at hT1 hA1 hA2 hA3 hNx
    have hbit := lm_bit y j
    have hj255 : j ≤ 255 := by omega
    have hj255i : (j : Int) ≤ 255 := by omega
    have HNX := hid hnext
    have qs : IntKind.i64.wrap ((j : Int) - 1) = (j : Int) - 1 := by rw [IntKind.wrap_i64]; omega
    have qt : (j : Int).tmod 64 = ((j % 64 : Nat) : Int) := by rw [Int.tmod_eq_emod_of_nonneg (by omega)]; omega
    have qm : min (j % 64) 64 = j % 64 := by omega
    have qf : (lm y (j / 64)).fdiv (2 ^ (j % 64)) = lm y (j / 64) / 2 ^ (j % 64) := Int.fdiv_eq_ediv_of_nonneg _ (Int.le_of_lt (Int.pow_pos (by omega)))
    have qw1 : IntKind.i64.wrap ((j : Int) / 64) = (j : Int) / 64 := by rw [IntKind.wrap_i64]; omega
    have qw2 : IntKind.i64.wrap ((j : Int) % 64) = (j : Int) % 64 := by rw [IntKind.wrap_i64]; omega
    have qn1 : ((j : Int) / 64).toNat = j / 64 := by omega
    have qn2 : ((j : Int) % 64).toNat = j % 64 := by omega
    have qp1 : (0 : Int) ≤ (j : Int) / 64 := by omega
    have qp2 : (0 : Int) ≤ (j : Int) % 64 := by omega
    have ql1 : (j : Int) / 64 < 4 := by omega
    have ql2 : (j : Int) % 64 < 64 := by omega
    clear hTo hTt ho hc hcl hj hji hnext hb ht hI hmp hlen
    have hPW := hid (hP5.out.two hg (by omega) (by omega))
    have hYW := hid (hY5.out.two hg (by omega) (by omega))
    have hQW := hid (hQ5.out.two hg (by omega) (by omega))
    have hSW := hid (hS5.out.two hg (by omega) (by omega))
    have hOW := hid hW
    have hJW := hid hJ
    have hg0 := hg
    clear hW hJ hg
    refine wpIn_block ?_
    (repeat ((fail_if_success (with_reducible refine Go.at_regionIn ?_)); gi_step))
    refine wpIn_calm 2 (by rintro ⟨_, _, h⟩; exact h) (by kernel_rfl) ?_
    simp only [List.take_succ_cons, List.take_zero]
    (refine calm_whole rfl _ _ rfl _ rfl _ _ hOW.out g4 (i4 o) ?_; simp only [Act.put, pvA, pv0, pv1])
    (apply calm_on rfl; (focus (intro W hB; go_simp; refine (hT1.out W).mono ?_; rintro _ _ ⟨rfl, hb'⟩; exact ⟨rfl, hb'⟩)); simp only [Act.put, pvA, pv0, pv1])
    refine calm_nil ?_
    intro Wx hx
    simp only [List.drop_succ_cons, List.drop_zero]
    refine wpList_set 66 (.tmp 10) (.tmp 22) rfl rfl rfl G (cells4 t) rfl rfl 66 (cells4 o) (hOW.out.step hx) (i4 t) rfl (one_cells4 t) ?_
    refine wpList_nil ?_
    have hg1 := (hg0.trans (World.two.of_below hx G (G + 1))).setG (cells4 t)
    have hr1 := (World.two.of_below hx G (G + 1)).setG (cells4 t)
    have hO1 := hid ((hOW.out.step hx).set (cells4 t))
    have hJ1 := hid ((hJW.out.step hx).other (show G + 1 ≠ G by omega) (cells4 t))
    have hP1x := hid ((hPW.out.step hx).other (show w.heap.size + 1 ≠ G by omega) (cells4 t))
    have hY1 := hid ((hYW.out.step hx).other (show w.heap.size + 1 + 1 ≠ G by omega) (cells4 t))
    have hQ1x := hid ((hQW.out.step hx).other (show w.heap.size + 1 + 1 + 1 ≠ G by omega) (cells4 t))
    have hS1x := hid ((hSW.out.step hx).other (show G9 ≠ G by omega) (cells4 t))
    obtain ⟨W1, hW1⟩ : ∃ z, z = Wx.setRow G (cells4 t) := ⟨_, rfl⟩
    rw [← hW1] at hg1 hr1 hO1 hJ1 hP1x hY1 hQ1x hS1x ⊢
    clear hW1 hx hOW hJW hPW hYW hQW hSW hT1
    rcases (show y / 2 ^ j % 2 = 0 ∨ y / 2 ^ j % 2 = 1 by omega) with hb2 | hb2
    · rw [hb2] at hbit hNx
      clear hb2
      (repeat ((fail_if_success (with_reducible refine Go.at_regionIn ?_)); gi_step))
      refine wpIn_draw_all (by rintro ⟨_, _, h⟩; exact h) (by kernel_rfl) (by kernel_rfl) (by kernel_rfl) (by kernel_rfl) ?_
      (refine calm_cell rfl _ _ rfl _ _ rfl _ _ hJ1.out (.int .i64 (j : Int)) rfl oIn ?_; simp only [Act.put, pvA, pv0, pv1])
      iterate 2 (apply calm_on rfl; (focus (intro W hB; go_simp; exact ⟨rfl, Below.refl _ _⟩)); simp only [Act.put, pvA, pv0, pv1])
      (refine calm_cell rfl _ _ rfl _ _ rfl _ _ hY1.out (.int .u64 (lm y (j / 64))) (cellsW_at y _ (by omega)) o64 ?_; simp only [Act.put, pvA, pv0, pv1])
      (refine calm_cell rfl _ _ rfl _ _ rfl _ _ hJ1.out (.int .i64 (j : Int)) rfl oIn ?_; simp only [Act.put, pvA, pv0, pv1])
      iterate 5 (apply calm_on rfl; (focus (intro W hB; go_simp; exact ⟨rfl, Below.refl _ _⟩)); simp only [Act.put, pvA, pv0, pv1])
      refine calm_nil ?_
      intro W2 h2
      (try dsimp only)
      have hP2 := hid (hP1x.out.step h2)
      have hQ2 := hid (hQ1x.out.step h2)
      have hS2 := hid (hS1x.out.step h2)
      have hO2 := hid (hO1.out.step h2)
      have hJ2 := hid (hJ1.out.step h2)
      have hr2 := hr1.trans (World.two.of_below h2 G (G + 1))
      (repeat ((fail_if_success (with_reducible refine Go.at_regionIn ?_)); gi_step))
      refine wpIn_calm 2 (by rintro ⟨_, _, h⟩; exact h) (by kernel_rfl) ?_
      simp only [List.take_succ_cons, List.take_zero]
      (refine calm_cell rfl _ _ rfl _ _ rfl _ _ hJ2.out (.int .i64 (j : Int)) rfl oIn ?_; simp only [Act.put, pvA, pv0, pv1])
      (apply calm_on rfl; (focus (intro W hB; go_simp; exact ⟨rfl, Below.refl _ _⟩)); simp only [Act.put, pvA, pv0, pv1])
      refine calm_nil ?_
      intro Wy hy
      simp only [List.drop_succ_cons, List.drop_zero]
      refine wpList_put 3 (.tmp 11) (.tmp 33) rfl rfl rfl (G + 1) .i64 ((j : Int) - 1) rfl rfl 3 _ (hJ2.out.step hy) iIn1 ?_
      refine wpList_nil ?_
      have hP3 := hid ((hP2.out.step hy).other (show w.heap.size + 1 ≠ G + 1 by omega) #[.int .i64 ((j : Int) - 1)])
      have hQ3 := hid ((hQ2.out.step hy).other (show w.heap.size + 1 + 1 + 1 ≠ G + 1 by omega) #[.int .i64 ((j : Int) - 1)])
      have hS3 := hid ((hS2.out.step hy).other (show G9 ≠ G + 1 by omega) #[.int .i64 ((j : Int) - 1)])
      have hO3 := hid ((hO2.out.step hy).other (show G ≠ G + 1 by omega) #[.int .i64 ((j : Int) - 1)])
      have hJ3 := hid ((hJ2.out.step hy).set #[.int .i64 ((j : Int) - 1)])
      have hr3 := (hr2.trans (World.two.of_below hy G (G + 1))).setH #[.int .i64 ((j : Int) - 1)]
      obtain ⟨W3, hW3⟩ : ∃ z, z = Wy.setRow (G + 1) #[.int .i64 ((j : Int) - 1)] := ⟨_, rfl⟩
      rw [← hW3] at hP3 hQ3 hS3 hO3 hJ3 hr3 ⊢
      clear hW3 hy h2 hP2 hQ2 hS2 hO2 hJ2 hr2
      cases b
      · rw [if_neg (by decide), if_neg (by decide)] at hNx
        have HN := hid hNx
        clear hNx
        (repeat ((fail_if_success (with_reducible refine Go.at_regionIn ?_)); gi_step))
        refine wpIn_calm 5 (by rintro ⟨_, _, h⟩; exact h) (by kernel_rfl) ?_
        simp only [List.take_succ_cons, List.take_zero]
        iterate 2 (apply calm_on rfl; (focus (intro W hB; go_simp; exact ⟨rfl, Below.refl _ _⟩)); simp only [Act.put, pvA, pv0, pv1])
        (refine calm_off rfl ?_; simp only [Act.put, pvA, pv0, pv1])
        iterate 2 (apply calm_on rfl; (focus (intro W hB; go_simp; exact ⟨rfl, Below.refl _ _⟩)); simp only [Act.put, pvA, pv0, pv1])
        refine calm_nil ?_
        intro W4 h4
        simp only [List.drop_succ_cons, List.drop_zero]
        refine wpList_nil ?_
        have hP4 := hid (hP3.out.step h4)
        have hQ4 := hid (hQ3.out.step h4)
        have hS4 := hid (hS3.out.step h4)
        have hO4 := hid (hO3.out.step h4)
        have hJ4 := hid (hJ3.out.step h4)
        have hr4 := hr3.trans (World.two.of_below h4 G (G + 1))
        (repeat ((fail_if_success (with_reducible refine Go.at_regionIn ?_)); gi_step))
        refine wpIn_calm 2 (by rintro ⟨_, _, h⟩; exact h) (by kernel_rfl) ?_
        simp only [List.take_succ_cons, List.take_zero]
        iterate 2 (apply calm_on rfl; (focus (intro W hB; go_simp; exact ⟨rfl, Below.refl _ _⟩)); simp only [Act.put, pvA, pv0, pv1])
        refine calm_nil ?_
        intro W5 h5
        simp only [List.drop_succ_cons, List.drop_zero]
        refine wpList_nil ?_
        have hP5 := hid (hP4.out.step h5)
        have hQ5 := hid (hQ4.out.step h5)
        have hS5 := hid (hS4.out.step h5)
        have hO5 := hid (hO4.out.step h5)
        have hJ5 := hid (hJ4.out.step h5)
        have hr5 := hr4.trans (World.two.of_below h5 G (G + 1))
        (repeat ((fail_if_success (with_reducible refine Go.at_regionIn ?_)); gi_step))
        refine wpIn_calm 2 (by rintro ⟨_, _, h⟩; exact h) (by kernel_rfl) ?_
        simp only [List.take_succ_cons, List.take_zero]
        iterate 2 (apply calm_on rfl; (focus (intro W hB; go_simp; exact ⟨rfl, Below.refl _ _⟩)); simp only [Act.put, pvA, pv0, pv1])
        refine calm_nil ?_
        intro W6 h6
        simp only [List.drop_succ_cons, List.drop_zero]
        refine wpList_nil ?_
        have hP6 := hid (hP5.out.step h6)
        have hQ6 := hid (hQ5.out.step h6)
        have hS6 := hid (hS5.out.step h6)
        have hO6 := hid (hO5.out.step h6)
        have hJ6 := hid (hJ5.out.step h6)
        have hr6 := hr5.trans (World.two.of_below h6 G (G + 1))
        gi_wp2
        exact ⟨KeepsFrom.of_two hr6 (by omega) (by omega), hr6.block B (by have := hg0.size; omega) (by omega) (by omega), hid ⟨hg0.trans hr6, by rw [HN.out]; exact hO6.out, by rw [HN.out, HNX.out]; exact hJ6.out⟩⟩
      · rw [if_pos rfl, if_neg (by decide)] at hNx
        have HN := hid hNx
        clear hNx
        (repeat ((fail_if_success (with_reducible refine Go.at_regionIn ?_)); gi_step))
        refine wpIn_calm 5 (by rintro ⟨_, _, h⟩; exact h) (by kernel_rfl) ?_
        simp only [List.take_succ_cons, List.take_zero]
        iterate 5 (apply calm_on rfl; (focus (intro W hB; go_simp; exact ⟨rfl, Below.refl _ _⟩)); simp only [Act.put, pvA, pv0, pv1])
        refine calm_nil ?_
        intro W4 h4
        simp only [List.drop_succ_cons, List.drop_zero]
        refine wpList_nil ?_
        have hP4 := hid (hP3.out.step h4)
        have hQ4 := hid (hQ3.out.step h4)
        have hS4 := hid (hS3.out.step h4)
        have hO4 := hid (hO3.out.step h4)
        have hJ4 := hid (hJ3.out.step h4)
        have hr4 := hr3.trans (World.two.of_below h4 G (G + 1))
        (repeat ((fail_if_success (with_reducible refine Go.at_regionIn ?_)); gi_step))
        refine wpIn_calm 2 (by rintro ⟨_, _, h⟩; exact h) (by kernel_rfl) ?_
        simp only [List.take_succ_cons, List.take_zero]
        iterate 2 (apply calm_on rfl; (focus (intro W hB; go_simp; exact ⟨rfl, Below.refl _ _⟩)); simp only [Act.put, pvA, pv0, pv1])
        refine calm_nil ?_
        intro W5 h5
        simp only [List.drop_succ_cons, List.drop_zero]
        refine wpList_nil ?_
        have hP5 := hid (hP4.out.step h5)
        have hQ5 := hid (hQ4.out.step h5)
        have hS5 := hid (hS4.out.step h5)
        have hO5 := hid (hO4.out.step h5)
        have hJ5 := hid (hJ4.out.step h5)
        have hr5 := hr4.trans (World.two.of_below h5 G (G + 1))
        (repeat ((fail_if_success (with_reducible refine Go.at_regionIn ?_)); gi_step))
        refine wpIn_calm 3 (by rintro ⟨_, _, h⟩; exact h) (by kernel_rfl) ?_
        simp only [List.take_succ_cons, List.take_zero]
        (refine calm_whole rfl _ _ rfl _ rfl _ _ hO5.out g4 (i4 t) ?_; simp only [Act.put, pvA, pv0, pv1])
        (refine calm_whole rfl _ _ rfl _ rfl _ _ hP5.out g4 (i4 p) ?_; simp only [Act.put, pvA, pv0, pv1])
        (apply calm_on rfl; (focus (intro W hB; go_simp; refine (hA1.out W).mono ?_; rintro _ _ ⟨rfl, hb'⟩; exact ⟨rfl, hb'⟩)); simp only [Act.put, pvA, pv0, pv1])
        refine calm_nil ?_
        intro Wz hz
        simp only [List.drop_succ_cons, List.drop_zero]
        obtain ⟨u, hu⟩ : ∃ u, u = plusW t p := ⟨_, rfl⟩
        rw [← hu]
        refine wpList_set 66 (.tmp 10) (.tmp 46) rfl rfl rfl G (cells4 u) rfl rfl 66 (cells4 t) (hO5.out.step hz) (i4 u) rfl (one_cells4 u) ?_
        refine wpList_nil ?_
        have hr9 := (hr5.trans (World.two.of_below hz G (G + 1))).setG (cells4 u)
        have hO9 := (hO5.out.step hz).set (cells4 u)
        have hJ9 := (hJ5.out.step hz).other (show G + 1 ≠ G by omega) (cells4 u)
        gi_wp2
        exact ⟨KeepsFrom.of_two hr9 (by omega) (by omega), hr9.block B (by have := hg0.size; omega) (by omega) (by omega), hid ⟨hg0.trans hr9, by rw [HN.out, ← hu]; exact hO9, by rw [HN.out, HNX.out]; exact hJ9⟩⟩
    · rw [hb2] at hbit hNx
      clear hb2
      (repeat ((fail_if_success (with_reducible refine Go.at_regionIn ?_)); gi_step))
      refine wpIn_draw_all (by rintro ⟨_, _, h⟩; exact h) (by kernel_rfl) (by kernel_rfl) (by kernel_rfl) (by kernel_rfl) ?_
      (refine calm_cell rfl _ _ rfl _ _ rfl _ _ hJ1.out (.int .i64 (j : Int)) rfl oIn ?_; simp only [Act.put, pvA, pv0, pv1])
      iterate 2 (apply calm_on rfl; (focus (intro W hB; go_simp; exact ⟨rfl, Below.refl _ _⟩)); simp only [Act.put, pvA, pv0, pv1])
      (refine calm_cell rfl _ _ rfl _ _ rfl _ _ hY1.out (.int .u64 (lm y (j / 64))) (cellsW_at y _ (by omega)) o64 ?_; simp only [Act.put, pvA, pv0, pv1])
      (refine calm_cell rfl _ _ rfl _ _ rfl _ _ hJ1.out (.int .i64 (j : Int)) rfl oIn ?_; simp only [Act.put, pvA, pv0, pv1])
      iterate 5 (apply calm_on rfl; (focus (intro W hB; go_simp; exact ⟨rfl, Below.refl _ _⟩)); simp only [Act.put, pvA, pv0, pv1])
      refine calm_nil ?_
      intro W2 h2
      (try dsimp only)
      have hP2 := hid (hP1x.out.step h2)
      have hQ2 := hid (hQ1x.out.step h2)
      have hS2 := hid (hS1x.out.step h2)
      have hO2 := hid (hO1.out.step h2)
      have hJ2 := hid (hJ1.out.step h2)
      have hr2 := hr1.trans (World.two.of_below h2 G (G + 1))
      (repeat ((fail_if_success (with_reducible refine Go.at_regionIn ?_)); gi_step))
      refine wpIn_calm 2 (by rintro ⟨_, _, h⟩; exact h) (by kernel_rfl) ?_
      simp only [List.take_succ_cons, List.take_zero]
      (refine calm_cell rfl _ _ rfl _ _ rfl _ _ hJ2.out (.int .i64 (j : Int)) rfl oIn ?_; simp only [Act.put, pvA, pv0, pv1])
      (apply calm_on rfl; (focus (intro W hB; go_simp; exact ⟨rfl, Below.refl _ _⟩)); simp only [Act.put, pvA, pv0, pv1])
      refine calm_nil ?_
      intro Wy hy
      simp only [List.drop_succ_cons, List.drop_zero]
      refine wpList_put 3 (.tmp 11) (.tmp 33) rfl rfl rfl (G + 1) .i64 ((j : Int) - 1) rfl rfl 3 _ (hJ2.out.step hy) iIn1 ?_
      refine wpList_nil ?_
      have hP3 := hid ((hP2.out.step hy).other (show w.heap.size + 1 ≠ G + 1 by omega) #[.int .i64 ((j : Int) - 1)])
      have hQ3 := hid ((hQ2.out.step hy).other (show w.heap.size + 1 + 1 + 1 ≠ G + 1 by omega) #[.int .i64 ((j : Int) - 1)])
      have hS3 := hid ((hS2.out.step hy).other (show G9 ≠ G + 1 by omega) #[.int .i64 ((j : Int) - 1)])
      have hO3 := hid ((hO2.out.step hy).other (show G ≠ G + 1 by omega) #[.int .i64 ((j : Int) - 1)])
      have hJ3 := hid ((hJ2.out.step hy).set #[.int .i64 ((j : Int) - 1)])
      have hr3 := (hr2.trans (World.two.of_below hy G (G + 1))).setH #[.int .i64 ((j : Int) - 1)]
      obtain ⟨W3, hW3⟩ : ∃ z, z = Wy.setRow (G + 1) #[.int .i64 ((j : Int) - 1)] := ⟨_, rfl⟩
      rw [← hW3] at hP3 hQ3 hS3 hO3 hJ3 hr3 ⊢
      clear hW3 hy h2 hP2 hQ2 hS2 hO2 hJ2 hr2
      cases b
      · rw [if_neg (by decide), if_pos (by decide)] at hNx
        have HN := hid hNx
        clear hNx
        (repeat ((fail_if_success (with_reducible refine Go.at_regionIn ?_)); gi_step))
        refine wpIn_calm 5 (by rintro ⟨_, _, h⟩; exact h) (by kernel_rfl) ?_
        simp only [List.take_succ_cons, List.take_zero]
        iterate 2 (apply calm_on rfl; (focus (intro W hB; go_simp; exact ⟨rfl, Below.refl _ _⟩)); simp only [Act.put, pvA, pv0, pv1])
        (refine calm_off rfl ?_; simp only [Act.put, pvA, pv0, pv1])
        iterate 2 (apply calm_on rfl; (focus (intro W hB; go_simp; exact ⟨rfl, Below.refl _ _⟩)); simp only [Act.put, pvA, pv0, pv1])
        refine calm_nil ?_
        intro W4 h4
        simp only [List.drop_succ_cons, List.drop_zero]
        refine wpList_nil ?_
        have hP4 := hid (hP3.out.step h4)
        have hQ4 := hid (hQ3.out.step h4)
        have hS4 := hid (hS3.out.step h4)
        have hO4 := hid (hO3.out.step h4)
        have hJ4 := hid (hJ3.out.step h4)
        have hr4 := hr3.trans (World.two.of_below h4 G (G + 1))
        (repeat ((fail_if_success (with_reducible refine Go.at_regionIn ?_)); gi_step))
        refine wpIn_calm 2 (by rintro ⟨_, _, h⟩; exact h) (by kernel_rfl) ?_
        simp only [List.take_succ_cons, List.take_zero]
        iterate 2 (apply calm_on rfl; (focus (intro W hB; go_simp; exact ⟨rfl, Below.refl _ _⟩)); simp only [Act.put, pvA, pv0, pv1])
        refine calm_nil ?_
        intro W5 h5
        simp only [List.drop_succ_cons, List.drop_zero]
        refine wpList_nil ?_
        have hP5 := hid (hP4.out.step h5)
        have hQ5 := hid (hQ4.out.step h5)
        have hS5 := hid (hS4.out.step h5)
        have hO5 := hid (hO4.out.step h5)
        have hJ5 := hid (hJ4.out.step h5)
        have hr5 := hr4.trans (World.two.of_below h5 G (G + 1))
        (repeat ((fail_if_success (with_reducible refine Go.at_regionIn ?_)); gi_step))
        refine wpIn_calm 2 (by rintro ⟨_, _, h⟩; exact h) (by kernel_rfl) ?_
        simp only [List.take_succ_cons, List.take_zero]
        iterate 2 (apply calm_on rfl; (focus (intro W hB; go_simp; exact ⟨rfl, Below.refl _ _⟩)); simp only [Act.put, pvA, pv0, pv1])
        refine calm_nil ?_
        intro W6 h6
        simp only [List.drop_succ_cons, List.drop_zero]
        refine wpList_nil ?_
        have hP6 := hid (hP5.out.step h6)
        have hQ6 := hid (hQ5.out.step h6)
        have hS6 := hid (hS5.out.step h6)
        have hO6 := hid (hO5.out.step h6)
        have hJ6 := hid (hJ5.out.step h6)
        have hr6 := hr5.trans (World.two.of_below h6 G (G + 1))
        (repeat ((fail_if_success (with_reducible refine Go.at_regionIn ?_)); gi_step))
        refine wpIn_calm 3 (by rintro ⟨_, _, h⟩; exact h) (by kernel_rfl) ?_
        simp only [List.take_succ_cons, List.take_zero]
        (refine calm_whole rfl _ _ rfl _ rfl _ _ hO6.out g4 (i4 t) ?_; simp only [Act.put, pvA, pv0, pv1])
        (refine calm_whole rfl _ _ rfl _ rfl _ _ hQ6.out g4 (i4 q) ?_; simp only [Act.put, pvA, pv0, pv1])
        (apply calm_on rfl; (focus (intro W hB; go_simp; refine (hA2.out W).mono ?_; rintro _ _ ⟨rfl, hb'⟩; exact ⟨rfl, hb'⟩)); simp only [Act.put, pvA, pv0, pv1])
        refine calm_nil ?_
        intro Wz hz
        simp only [List.drop_succ_cons, List.drop_zero]
        obtain ⟨u, hu⟩ : ∃ u, u = plusW t q := ⟨_, rfl⟩
        rw [← hu]
        refine wpList_set 66 (.tmp 10) (.tmp 51) rfl rfl rfl G (cells4 u) rfl rfl 66 (cells4 t) (hO6.out.step hz) (i4 u) rfl (one_cells4 u) ?_
        refine wpList_nil ?_
        have hr9 := (hr6.trans (World.two.of_below hz G (G + 1))).setG (cells4 u)
        have hO9 := (hO6.out.step hz).set (cells4 u)
        have hJ9 := (hJ6.out.step hz).other (show G + 1 ≠ G by omega) (cells4 u)
        gi_wp2
        exact ⟨KeepsFrom.of_two hr9 (by omega) (by omega), hr9.block B (by have := hg0.size; omega) (by omega) (by omega), hid ⟨hg0.trans hr9, by rw [HN.out, ← hu]; exact hO9, by rw [HN.out, HNX.out]; exact hJ9⟩⟩
      · rw [if_pos rfl, if_pos (by decide)] at hNx
        have HN := hid hNx
        clear hNx
        (repeat ((fail_if_success (with_reducible refine Go.at_regionIn ?_)); gi_step))
        refine wpIn_calm 5 (by rintro ⟨_, _, h⟩; exact h) (by kernel_rfl) ?_
        simp only [List.take_succ_cons, List.take_zero]
        iterate 5 (apply calm_on rfl; (focus (intro W hB; go_simp; exact ⟨rfl, Below.refl _ _⟩)); simp only [Act.put, pvA, pv0, pv1])
        refine calm_nil ?_
        intro W4 h4
        simp only [List.drop_succ_cons, List.drop_zero]
        refine wpList_nil ?_
        have hP4 := hid (hP3.out.step h4)
        have hQ4 := hid (hQ3.out.step h4)
        have hS4 := hid (hS3.out.step h4)
        have hO4 := hid (hO3.out.step h4)
        have hJ4 := hid (hJ3.out.step h4)
        have hr4 := hr3.trans (World.two.of_below h4 G (G + 1))
        (repeat ((fail_if_success (with_reducible refine Go.at_regionIn ?_)); gi_step))
        refine wpIn_calm 3 (by rintro ⟨_, _, h⟩; exact h) (by kernel_rfl) ?_
        simp only [List.take_succ_cons, List.take_zero]
        (refine calm_whole rfl _ _ rfl _ rfl _ _ hO4.out g4 (i4 t) ?_; simp only [Act.put, pvA, pv0, pv1])
        (refine calm_whole rfl _ _ rfl _ rfl _ _ hS4.out g4 (i4 s) ?_; simp only [Act.put, pvA, pv0, pv1])
        (apply calm_on rfl; (focus (intro W hB; go_simp; refine (hA3.out W).mono ?_; rintro _ _ ⟨rfl, hb'⟩; exact ⟨rfl, hb'⟩)); simp only [Act.put, pvA, pv0, pv1])
        refine calm_nil ?_
        intro Wz hz
        simp only [List.drop_succ_cons, List.drop_zero]
        obtain ⟨u, hu⟩ : ∃ u, u = plusW t s := ⟨_, rfl⟩
        rw [← hu]
        refine wpList_set 66 (.tmp 10) (.tmp 41) rfl rfl rfl G (cells4 u) rfl rfl 66 (cells4 t) (hO4.out.step hz) (i4 u) rfl (one_cells4 u) ?_
        refine wpList_nil ?_
        have hr9 := (hr4.trans (World.two.of_below hz G (G + 1))).setG (cells4 u)
        have hO9 := (hO4.out.step hz).set (cells4 u)
        have hJ9 := (hJ4.out.step hz).other (show G + 1 ≠ G by omega) (cells4 u)
        gi_wp2
        exact ⟨KeepsFrom.of_two hr9 (by omega) (by omega), hr9.block B (by have := hg0.size; omega) (by omega) (by omega), hid ⟨hg0.trans hr9, by rw [HN.out, ← hu]; exact hO9, by rw [HN.out, HNX.out]; exact hJ9⟩⟩
  case done =>
    intro D xs W hD hS hI hKD
    obtain ⟨hg, hW, _⟩ := hI.out
    rw [hS] at hW
    have hRW := hid (hR5.out.two hg (by omega) (by omega))
    have hQW := hid hW
    obtain ⟨r, hr⟩ : ∃ r, r = (bfold x y p q s (List.range 256)).1 := ⟨_, rfl⟩
    rw [← hr] at hQW
    have HR := hid hr
    clear hr hW hS hI
    go_wp2_with (first | (refine wpList_get _ _ rfl rfl _ rfl _ _ hQW.out g4 (i4 r) ?_; simp only [Act.put, pvA, pv0, pv1]) | (refine wpList_set _ _ _ rfl rfl rfl _ _ rfl rfl _ _ hRW.out (i4 r) rfl (one_cells4 r) ?_))
    have hne : w.heap.size + 1 + 1 + 1 + 1 ≠ D := by omega
    have hK' : (W.setRow (w.heap.size + 1 + 1 + 1 + 1) (cells4 r)).heap[D]? = some (.deferred (some [])) := by
      simp only [World.setRow, Array.getElem?_modify]
      rw [if_neg (by omega)]; exact hKD
    have hRb := hRW.out.set (cells4 r)
    have hbW : Below w.heap.size w (W.setRow (w.heap.size + 1 + 1 + 1 + 1) (cells4 r)) := below_set (Below.two hb5 hg hb5.size (by omega) (by omega)) _ (by omega) _
    refine ⟨by simp, .inl ⟨_, _, rfl, run_takeDeferred hK', ?_⟩⟩
    obtain ⟨d, h1, h2⟩ := aggT_spec g4
    refine ⟨_, results_cell_row rfl _ _ (w.heap.size + 1 + 1 + 1 + 1) 66 (cells4 r) (0, 0) d rfl ((World.putObj_heap_other hne).trans hRb) h1 (by cases d <;> first | rfl | cases h2) (i4 r), by rw [HR.out], ?_⟩
    exact hbW.grown (grownBy_putObj' _ D _) hbW.size (fun k e => by cases e; omega)
end Go.Proofs.Ytejnnghfelpioaa
namespace Go.Proofs.Ytejnnghfelpioaa
open Go.RowKit
def bsxN : Nat := 15112221349535400772501151409588531511454012693041857206046113283949847762202
theorem bsxN_cells : cellsW bsxN = #[.int .u64 14507833142362363162, .int .u64 7578651490590762930, .int .u64 13881468655802702940, .int .u64 2407515759118799870] := by
  have e : ∀ i, i < 4 → lm bsxN i = if i = 0 then 14507833142362363162 else if i = 1 then 7578651490590762930 else if i = 2 then 13881468655802702940 else 2407515759118799870 := by decide +kernel
  unfold cellsW; rw [e 0 (by decide), e 1 (by decide), e 2 (by decide), e 3 (by decide)]; rfl
theorem bsxN_built : Try.prog.built 25 [(0, .int .u64 14507833142362363162), (1, .int .u64 7578651490590762930), (2, .int .u64 13881468655802702940), (3, .int .u64 2407515759118799870)] = some (cellsW bsxN) := by rw [bsxN_cells]; kernel_rfl
theorem bsxN_lt : bsxN < 2 ^ 256 := by decide +kernel
def bsyN : Nat := 46316835694926478169428394003475163141307993866256225615783033603165251855960
theorem bsyN_cells : cellsW bsyN = #[.int .u64 7378697629483820632, .int .u64 7378697629483820646, .int .u64 7378697629483820646, .int .u64 7378697629483820646] := by
  have e : ∀ i, i < 4 → lm bsyN i = if i = 0 then 7378697629483820632 else if i = 1 then 7378697629483820646 else if i = 2 then 7378697629483820646 else 7378697629483820646 := by decide +kernel
  unfold cellsW; rw [e 0 (by decide), e 1 (by decide), e 2 (by decide), e 3 (by decide)]; rfl
theorem bsyN_built : Try.prog.built 25 [(0, .int .u64 7378697629483820632), (1, .int .u64 7378697629483820646), (2, .int .u64 7378697629483820646), (3, .int .u64 7378697629483820646)] = some (cellsW bsyN) := by rw [bsyN_cells]; kernel_rfl
theorem bsyN_lt : bsyN < 2 ^ 256 := by decide +kernel
def baseP : P2 := ⟨bsxN, bsyN⟩
def onL (p : P2) : Nat := subP (p.y * p.y % pN) (p.x * p.x % pN)
def onR (p : P2) : Nat := (1 + dN * ((p.x * p.x % pN) * (p.y * p.y % pN) % pN) % pN) % pN
def onB (p : P2) : Bool := decide (p.x < pN) && (decide (p.y < pN) && decide (onL p = onR p))
def propB (x : Nat) : Bool := decide (x < pN)
theorem prop_eq (x : Nat) (h : x < 2 ^ 256) : decide (x % pN = x) = propB x := by
  unfold propB
  by_cases hx : x < pN
  · rw [Nat.mod_eq_of_lt hx, decide_eq_true rfl, decide_eq_true hx]
  · rw [decide_eq_false hx, decide_eq_false (fun e => hx (by rw [← e]; exact Nat.mod_lt _ pN_pos))]
set_option maxRecDepth 100000 in
set_option maxHeartbeats 4000000 in
theorem base_any (w : World) : Calls Try.prog 20 #[] w fun e w' => e = .returned (pt baseP) ∧ Below w.heap.size w w' := by
  have kx := hid bsxN_built
  have ky := hid bsyN_built
  have hbp : baseP = ⟨bsxN, bsyN⟩ := rfl
  rw [hbp]
  clear hbp
  obtain ⟨x, hx⟩ : ∃ x, x = bsxN := ⟨_, rfl⟩
  obtain ⟨y, hy⟩ : ∃ y, y = bsyN := ⟨_, rfl⟩
  rw [← hx] at kx ⊢
  rw [← hy] at ky ⊢
  clear hx hy
  unfold pt
  obtain ⟨w0, hw0, k0, hbl0⟩ := entry1 w 44 (cellsP zeroP)
  have hb0_0 := hid k0
  clear k0
  go_enter Try.func20, Try.ntmps20
  (repeat ((fail_if_success (with_reducible refine Go.at_region ?_)); go_step))
  refine wp_region_lit ?_
  (refine wpList_alloc_new rfl 44 rfl (cellsP zeroP) zPe ?_; simp only [Act.put, pvA, pv0, pv1]; (try simp only [World.size_alloc]))
  refine wpList_nil ?_
  rw [← hw0]
  clear hw0
  (repeat ((fail_if_success (with_reducible refine Go.at_region ?_)); go_step))
  refine list_tail 3 ?_
  simp only [List.take_succ_cons, List.take_zero]
  (refine calm_build rfl 25 _ rfl (cellsW x) (by first | (simp only [List.map_toArray, List.map_cons, List.map_nil]; exact kx.out) | exact kx.out) ?_; simp only [Act.put, pvA, pv0, pv1])
  (refine calm_build rfl 25 _ rfl (cellsW y) (by first | (simp only [List.map_toArray, List.map_cons, List.map_nil]; exact ky.out) | exact ky.out) ?_; simp only [Act.put, pvA, pv0, pv1])
  (refine calm_build rfl 44 _ rfl (cellsP ⟨x, y⟩) (by first | (simp only [List.map_toArray, List.map_cons, List.map_nil]; exact (bPe x y)) | exact (bPe x y)) ?_; simp only [Act.put, pvA, pv0, pv1])
  refine calm_nil ?_
  intro wx1 hx1
  simp only [List.drop_succ_cons, List.drop_zero]
  (try simp only [Act.put, pvA, pv0, pv1])
  have fb0 := hb0_0.out.step hx1
  have hbb := hbl0.trans (hx1.mono hbl0.size)
  refine wpList_set _ _ _ rfl rfl rfl _ _ rfl rfl _ _ fb0 (iPe ⟨x, y⟩) rfl (one_cellsP ⟨x, y⟩) ?_
  replace fb0 := fb0.set (cellsP ⟨x, y⟩)
  replace hbb := below_set hbb w.heap.size (by omega) (cellsP ⟨x, y⟩)
  refine wpList_nil ?_
  obtain ⟨w1, hw⟩ : ∃ z, z = (wx1.setRow w.heap.size (cellsP ⟨x, y⟩)) := ⟨_, rfl⟩
  rw [← hw] at hbb fb0 ⊢
  have hb0_1 := hid fb0
  have hbl1 := hbb
  clear hw hbb fb0 hx1 hbl0 hb0_0 
  (repeat ((fail_if_success (with_reducible refine Go.at_region ?_)); go_step))
  refine ret_blk w.heap.size 44 (cellsP ⟨x, y⟩) rfl rfl hb0_1.out gPe (iPe ⟨x, y⟩) rfl ?_
  exact ⟨rfl, hbl1⟩
set_option maxRecDepth 100000 in
set_option maxHeartbeats 4000000 in
theorem proper_any (x : Nat) (w : World) (hx : x < 2 ^ 256) : Calls Try.prog 39 #[wd x] w fun e w' => e = .returned (.bool (propB x)) ∧ Below w.heap.size w w' := by
  have hq := eq_wd (x % pN) x (p_mod_lt x) hx
  rw [prop_eq x hx] at hq
  have c1 := hid fun w => (show Calls _ _ _ _ _ from by have := fadd_any x 0 w hx (by decide); rw [Nat.add_zero] at this; exact this)
  obtain ⟨r1, e1⟩ : ∃ r, r = x % pN := ⟨_, rfl⟩
  rw [← e1] at c1
  have E1 := hid e1
  clear e1
  rw [← E1.out] at hq
  have hBn := hid nil_built
  clear hx
  unfold wd at *
  obtain ⟨w0, hw0, k1, hbl0⟩ := entry1 w 25 (cellsW x)
  have hb1_0 := hid k1
  clear k1
  go_enter Try.func39, Try.ntmps39
  (repeat ((fail_if_success (with_reducible refine Go.at_region ?_)); go_step))
  refine wp_region_lit ?_
  (refine wpList_box 25 (.tmp 0) rfl rfl (cellsW x) rfl ?_; simp only [Act.put, pvA, pv0, pv1]; (try simp only [World.size_alloc]))
  (refine wpList_plain rfl fun K hK => ?_; go_simp; refine hK _ _ ?_; clear hK K; (try simp only [Act.put, pvA, pv0, pv1]))
  refine wpList_nil ?_
  rw [← hw0]
  clear hw0
  (repeat ((fail_if_success (with_reducible refine Go.at_region ?_)); go_step))
  refine draw_all (by kernel_rfl) (by kernel_rfl) (by kernel_rfl) ?_
  (refine calm_whole rfl _ _ rfl _ rfl _ _ hb1_0.out gWd (iW x) ?_; simp only [Act.put, pvA, pv0, pv1])
  (refine calm_build rfl 25 _ rfl (cellsW 0) (by first | (simp only [List.map_toArray, List.map_cons, List.map_nil]; exact hBn.out) | exact hBn.out) ?_; simp only [Act.put, pvA, pv0, pv1])
  (apply calm_on rfl; (focus (intro W hB; go_simp; refine (c1.out W).mono ?_; rintro _ _ ⟨rfl, hb'⟩; exact ⟨rfl, hb'⟩)); simp only [Act.put, pvA, pv0, pv1])
  (refine calm_whole rfl _ _ rfl _ rfl _ _ hb1_0.out gWd (iW x) ?_; simp only [Act.put, pvA, pv0, pv1])
  iterate 2 (apply calm_on rfl; (focus (intro W hB; go_simp; exact ⟨rfl, Below.refl _ _⟩)); simp only [Act.put, pvA, pv0, pv1])
  refine calm_nil ?_
  intro w1 hs1
  (try dsimp only)
  have hb1_1 := hid (hb1_0.out.step hs1)
  have hbl1 := hbl0.trans (hs1.mono hbl0.size)
  clear hs1 hbl0 hb1_0
  (repeat ((fail_if_success (with_reducible refine Go.at_region ?_)); go_step))
  go_ret
  exact ⟨rfl, hbl1⟩
set_option maxRecDepth 100000 in
set_option maxHeartbeats 4000000 in
theorem on_x (p : P2) (w : World) (hp : LtP p) (hx : propB p.x = false) : Calls Try.prog 13 #[pt p] w fun e w' => e = .returned (.bool false) ∧ Below w.heap.size w w' := by
  have cx := hid fun w => proper_any p.x w hp.x
  have cy := hid fun w => proper_any p.y w hp.y
  rw [hx] at cx
  clear hp hx cy
  unfold pt wd at *
  obtain ⟨w0, hw0, k1, hbl0⟩ := entry1 w 44 (cellsP p)
  have hb1_0 := hid k1
  clear k1
  go_enter Try.func13, Try.ntmps13
  (repeat ((fail_if_success (with_reducible refine Go.at_region ?_)); go_step))
  refine wp_region_lit ?_
  (refine wpList_box 44 (.tmp 0) rfl rfl (cellsP p) rfl ?_; simp only [Act.put, pvA, pv0, pv1]; (try simp only [World.size_alloc]))
  (refine wpList_plain rfl fun K hK => ?_; go_simp; refine hK _ _ ?_; clear hK K; (try simp only [Act.put, pvA, pv0, pv1]))
  refine wpList_nil ?_
  rw [← hw0]
  clear hw0
  (repeat ((fail_if_success (with_reducible refine Go.at_region ?_)); go_step))
  refine list_all ?_
  (apply calm_on rfl; (focus (intro W hB; go_simp; exact ⟨rfl, Below.refl _ _⟩)); simp only [Act.put, pvA, pv0, pv1])
  (refine calm_part rfl _ _ rfl _ _ rfl _ _ (cellsW (p).x) hb1_0.out (inP_x p) gWd (iW (p).x) ?_; simp only [Act.put, pvA, pv0, pv1])
  (apply calm_on rfl; (focus (intro W hB; go_simp; refine (cx.out W).mono ?_; rintro _ _ ⟨rfl, hb'⟩; exact ⟨rfl, hb'⟩)); simp only [Act.put, pvA, pv0, pv1])
  iterate 2 (apply calm_on rfl; (focus (intro W hB; go_simp; exact ⟨rfl, Below.refl _ _⟩)); simp only [Act.put, pvA, pv0, pv1])
  iterate 4 (refine calm_off rfl ?_; simp only [Act.put, pvA, pv0, pv1])
  (apply calm_on rfl; (focus (intro W hB; go_simp; exact ⟨rfl, Below.refl _ _⟩)); simp only [Act.put, pvA, pv0, pv1])
  refine calm_nil ?_
  intro w1 hs1
  (try dsimp only)
  have hb1_1 := hid (hb1_0.out.step hs1)
  have hbl1 := hbl0.trans (hs1.mono hbl0.size)
  clear hs1 hbl0 hb1_0
  (repeat ((fail_if_success (with_reducible refine Go.at_region ?_)); go_step))
  refine list_all ?_
  (apply calm_on rfl; (focus (intro W hB; go_simp; exact ⟨rfl, Below.refl _ _⟩)); simp only [Act.put, pvA, pv0, pv1])
  refine calm_nil ?_
  intro w2 hs2
  (try dsimp only)
  have hb1_2 := hid (hb1_1.out.step hs2)
  have hbl2 := hbl1.trans (hs2.mono hbl1.size)
  clear hs2 hbl1 hb1_1
  (repeat ((fail_if_success (with_reducible refine Go.at_region ?_)); go_step))
  go_ret
  exact ⟨rfl, hbl2⟩
set_option maxRecDepth 100000 in
set_option maxHeartbeats 4000000 in
theorem on_y (p : P2) (w : World) (hp : LtP p) (hx : propB p.x = true) (hy : propB p.y = false) : Calls Try.prog 13 #[pt p] w fun e w' => e = .returned (.bool false) ∧ Below w.heap.size w w' := by
  have cx := hid fun w => proper_any p.x w hp.x
  have cy := hid fun w => proper_any p.y w hp.y
  rw [hx] at cx
  rw [hy] at cy
  clear hp hx hy
  unfold pt wd at *
  obtain ⟨w0, hw0, k1, hbl0⟩ := entry1 w 44 (cellsP p)
  have hb1_0 := hid k1
  clear k1
  go_enter Try.func13, Try.ntmps13
  (repeat ((fail_if_success (with_reducible refine Go.at_region ?_)); go_step))
  refine wp_region_lit ?_
  (refine wpList_box 44 (.tmp 0) rfl rfl (cellsP p) rfl ?_; simp only [Act.put, pvA, pv0, pv1]; (try simp only [World.size_alloc]))
  (refine wpList_plain rfl fun K hK => ?_; go_simp; refine hK _ _ ?_; clear hK K; (try simp only [Act.put, pvA, pv0, pv1]))
  refine wpList_nil ?_
  rw [← hw0]
  clear hw0
  (repeat ((fail_if_success (with_reducible refine Go.at_region ?_)); go_step))
  refine list_all ?_
  (apply calm_on rfl; (focus (intro W hB; go_simp; exact ⟨rfl, Below.refl _ _⟩)); simp only [Act.put, pvA, pv0, pv1])
  (refine calm_part rfl _ _ rfl _ _ rfl _ _ (cellsW (p).x) hb1_0.out (inP_x p) gWd (iW (p).x) ?_; simp only [Act.put, pvA, pv0, pv1])
  (apply calm_on rfl; (focus (intro W hB; go_simp; refine (cx.out W).mono ?_; rintro _ _ ⟨rfl, hb'⟩; exact ⟨rfl, hb'⟩)); simp only [Act.put, pvA, pv0, pv1])
  iterate 3 (apply calm_on rfl; (focus (intro W hB; go_simp; exact ⟨rfl, Below.refl _ _⟩)); simp only [Act.put, pvA, pv0, pv1])
  (refine calm_part rfl _ _ rfl _ _ rfl _ _ (cellsW (p).y) hb1_0.out (inP_y p) gWd (iW (p).y) ?_; simp only [Act.put, pvA, pv0, pv1])
  (apply calm_on rfl; (focus (intro W hB; go_simp; refine (cy.out W).mono ?_; rintro _ _ ⟨rfl, hb'⟩; exact ⟨rfl, hb'⟩)); simp only [Act.put, pvA, pv0, pv1])
  iterate 2 (apply calm_on rfl; (focus (intro W hB; go_simp; exact ⟨rfl, Below.refl _ _⟩)); simp only [Act.put, pvA, pv0, pv1])
  refine calm_nil ?_
  intro w1 hs1
  (try dsimp only)
  have hb1_1 := hid (hb1_0.out.step hs1)
  have hbl1 := hbl0.trans (hs1.mono hbl0.size)
  clear hs1 hbl0 hb1_0
  (repeat ((fail_if_success (with_reducible refine Go.at_region ?_)); go_step))
  refine list_all ?_
  (apply calm_on rfl; (focus (intro W hB; go_simp; exact ⟨rfl, Below.refl _ _⟩)); simp only [Act.put, pvA, pv0, pv1])
  refine calm_nil ?_
  intro w2 hs2
  (try dsimp only)
  have hb1_2 := hid (hb1_1.out.step hs2)
  have hbl2 := hbl1.trans (hs2.mono hbl1.size)
  clear hs2 hbl1 hb1_1
  (repeat ((fail_if_success (with_reducible refine Go.at_region ?_)); go_step))
  go_ret
  exact ⟨rfl, hbl2⟩
set_option maxRecDepth 100000 in
set_option maxHeartbeats 4000000 in
theorem on_on (p : P2) (w : World) (hp : LtP p) (hx : propB p.x = true) (hy : propB p.y = true) : Calls Try.prog 13 #[pt p] w fun e w' => e = .returned (.bool (decide (onL p = onR p))) ∧ Below w.heap.size w w' := by
  have cx := hid fun w => proper_any p.x w hp.x
  have cy := hid fun w => proper_any p.y w hp.y
  rw [hx] at cx
  rw [hy] at cy
  unfold onL onR
  have c1 := hid fun w => fmul_any p.x p.x w hp.x hp.x
  obtain ⟨r1, e1⟩ : ∃ r, r = p.x * p.x % pN := ⟨_, rfl⟩
  rw [← e1] at c1
  have E1 := hid e1
  clear e1
  have c2 := hid fun w => fmul_any p.y p.y w hp.y hp.y
  obtain ⟨r2, e2⟩ : ∃ r, r = p.y * p.y % pN := ⟨_, rfl⟩
  rw [← e2] at c2
  have E2 := hid e2
  clear e2
  have lx2 : r1 < 2 ^ 256 := by rw [E1.out]; exact p_mod_lt _
  have ly2 : r2 < 2 ^ 256 := by rw [E2.out]; exact p_mod_lt _
  have c3 := hid fun w => fsub_any r2 r1 w ly2 lx2
  obtain ⟨r3, e3⟩ : ∃ r, r = subP r2 r1 := ⟨_, rfl⟩
  rw [← e3] at c3
  have E3 := hid e3
  clear e3
  have cd := hid fun w => d_any w
  have c4 := hid fun w => fmul_any r1 r2 w lx2 ly2
  obtain ⟨r4, e4⟩ : ∃ r, r = r1 * r2 % pN := ⟨_, rfl⟩
  rw [← e4] at c4
  have E4 := hid e4
  clear e4
  have l4 : r4 < 2 ^ 256 := by rw [E4.out]; exact p_mod_lt _
  have c5 := hid fun w => fmul_any dN r4 w dN_lt l4
  obtain ⟨r5, e5⟩ : ∃ r, r = dN * r4 % pN := ⟨_, rfl⟩
  rw [← e5] at c5
  have E5 := hid e5
  clear e5
  have l5 : r5 < 2 ^ 256 := by rw [E5.out]; exact p_mod_lt _
  have c6 := hid fun w => fadd_any 1 r5 w (by decide) l5
  obtain ⟨r6, e6⟩ : ∃ r, r = (1 + r5) % pN := ⟨_, rfl⟩
  rw [← e6] at c6
  have E6 := hid e6
  clear e6
  have hq := eq_wd r3 r6 (by rw [E3.out]; exact p_mod_lt _) (by rw [E6.out]; exact p_mod_lt _)
  rw [← E1.out, ← E2.out, ← E3.out, ← E4.out, ← E5.out, ← E6.out]
  obtain ⟨res, hres⟩ : ∃ b, b = decide (r3 = r6) := ⟨_, rfl⟩
  rw [← hres] at hq ⊢
  have h1b := hid one_built
  clear hp hx hy lx2 ly2 l4 l5 hres
  unfold pt wd at *
  obtain ⟨w0, hw0, k1, hbl0⟩ := entry1 w 44 (cellsP p)
  have hb1_0 := hid k1
  clear k1
  go_enter Try.func13, Try.ntmps13
  (repeat ((fail_if_success (with_reducible refine Go.at_region ?_)); go_step))
  refine wp_region_lit ?_
  (refine wpList_box 44 (.tmp 0) rfl rfl (cellsP p) rfl ?_; simp only [Act.put, pvA, pv0, pv1]; (try simp only [World.size_alloc]))
  (refine wpList_plain rfl fun K hK => ?_; go_simp; refine hK _ _ ?_; clear hK K; (try simp only [Act.put, pvA, pv0, pv1]))
  refine wpList_nil ?_
  rw [← hw0]
  clear hw0
  (repeat ((fail_if_success (with_reducible refine Go.at_region ?_)); go_step))
  refine list_all ?_
  (apply calm_on rfl; (focus (intro W hB; go_simp; exact ⟨rfl, Below.refl _ _⟩)); simp only [Act.put, pvA, pv0, pv1])
  (refine calm_part rfl _ _ rfl _ _ rfl _ _ (cellsW (p).x) hb1_0.out (inP_x p) gWd (iW (p).x) ?_; simp only [Act.put, pvA, pv0, pv1])
  (apply calm_on rfl; (focus (intro W hB; go_simp; refine (cx.out W).mono ?_; rintro _ _ ⟨rfl, hb'⟩; exact ⟨rfl, hb'⟩)); simp only [Act.put, pvA, pv0, pv1])
  iterate 3 (apply calm_on rfl; (focus (intro W hB; go_simp; exact ⟨rfl, Below.refl _ _⟩)); simp only [Act.put, pvA, pv0, pv1])
  (refine calm_part rfl _ _ rfl _ _ rfl _ _ (cellsW (p).y) hb1_0.out (inP_y p) gWd (iW (p).y) ?_; simp only [Act.put, pvA, pv0, pv1])
  (apply calm_on rfl; (focus (intro W hB; go_simp; refine (cy.out W).mono ?_; rintro _ _ ⟨rfl, hb'⟩; exact ⟨rfl, hb'⟩)); simp only [Act.put, pvA, pv0, pv1])
  iterate 2 (apply calm_on rfl; (focus (intro W hB; go_simp; exact ⟨rfl, Below.refl _ _⟩)); simp only [Act.put, pvA, pv0, pv1])
  refine calm_nil ?_
  intro w1 hs1
  (try dsimp only)
  have hb1_1 := hid (hb1_0.out.step hs1)
  have hbl1 := hbl0.trans (hs1.mono hbl0.size)
  clear hs1 hbl0 hb1_0
  (repeat ((fail_if_success (with_reducible refine Go.at_region ?_)); go_step))
  refine draw_new2 10 _ _ rfl 25 25 (cellsW 0) (cellsW 0) 3 4 rfl rfl rfl (by simp) zWd rfl rfl rfl (by simp) zWd (by decide) (by kernel_rfl) (by kernel_rfl) (by kernel_rfl) (by kernel_rfl) ?_
  simp only [List.take_succ_cons, List.take_zero]
  (apply calm_on rfl; (focus (intro W hB; go_simp; exact ⟨rfl, Below.refl _ _⟩)); simp only [Act.put, pvA, pv0, pv1])
  (refine calm_part rfl _ _ rfl _ _ rfl _ _ (cellsW (p).x) hb1_1.out (inP_x p) gWd (iW (p).x) ?_; simp only [Act.put, pvA, pv0, pv1])
  (apply calm_on rfl; (focus (intro W hB; go_simp; exact ⟨rfl, Below.refl _ _⟩)); simp only [Act.put, pvA, pv0, pv1])
  (refine calm_part rfl _ _ rfl _ _ rfl _ _ (cellsW (p).x) hb1_1.out (inP_x p) gWd (iW (p).x) ?_; simp only [Act.put, pvA, pv0, pv1])
  (apply calm_on rfl; (focus (intro W hB; go_simp; refine (c1.out W).mono ?_; rintro _ _ ⟨rfl, hb'⟩; exact ⟨rfl, hb'⟩)); simp only [Act.put, pvA, pv0, pv1])
  (apply calm_on rfl; (focus (intro W hB; go_simp; exact ⟨rfl, Below.refl _ _⟩)); simp only [Act.put, pvA, pv0, pv1])
  (refine calm_part rfl _ _ rfl _ _ rfl _ _ (cellsW (p).y) hb1_1.out (inP_y p) gWd (iW (p).y) ?_; simp only [Act.put, pvA, pv0, pv1])
  (apply calm_on rfl; (focus (intro W hB; go_simp; exact ⟨rfl, Below.refl _ _⟩)); simp only [Act.put, pvA, pv0, pv1])
  (refine calm_part rfl _ _ rfl _ _ rfl _ _ (cellsW (p).y) hb1_1.out (inP_y p) gWd (iW (p).y) ?_; simp only [Act.put, pvA, pv0, pv1])
  (apply calm_on rfl; (focus (intro W hB; go_simp; refine (c2.out W).mono ?_; rintro _ _ ⟨rfl, hb'⟩; exact ⟨rfl, hb'⟩)); simp only [Act.put, pvA, pv0, pv1])
  refine calm_nil ?_
  intro bk3 bk4 wx2 hle3 hle4 hne3 hx2 hn3 hn4
  simp only [List.drop_succ_cons, List.drop_zero]
  (try simp only [Act.put, pvA, pv0, pv1])
  have fb1 := hb1_1.out.step hx2
  have hbb := hbl1.trans (hx2.mono hbl1.size)
  have fb3 := hn3
  have fb4 := hn4
  have ne1_3 : w.heap.size ≠ bk3 := by have := hb1_1.out.lt; omega
  have ne1_4 : w.heap.size ≠ bk4 := by have := hb1_1.out.lt; omega
  have ge3 : w.heap.size ≤ bk3 := Nat.le_trans hbl1.size hle3
  have ge4 : w.heap.size ≤ bk4 := Nat.le_trans hbl1.size hle4
  refine wpList_set _ _ _ rfl rfl rfl _ _ rfl rfl _ _ fb3 (iW r1) rfl (one_cellsW r1) ?_
  replace fb1 := fb1.other ne1_3 (cellsW r1)
  replace fb3 := fb3.set (cellsW r1)
  replace fb4 := fb4.other (Ne.symm hne3) (cellsW r1)
  replace hbb := below_set hbb bk3 (ge3) (cellsW r1)
  refine wpList_set _ _ _ rfl rfl rfl _ _ rfl rfl _ _ fb4 (iW r2) rfl (one_cellsW r2) ?_
  replace fb1 := fb1.other ne1_4 (cellsW r2)
  replace fb3 := fb3.other hne3 (cellsW r2)
  replace fb4 := fb4.set (cellsW r2)
  replace hbb := below_set hbb bk4 (ge4) (cellsW r2)
  refine wpList_nil ?_
  obtain ⟨w2, hw⟩ : ∃ z, z = ((wx2.setRow bk3 (cellsW r1)).setRow bk4 (cellsW r2)) := ⟨_, rfl⟩
  rw [← hw] at hbb fb1 fb3 fb4 ⊢
  have hb1_2 := hid fb1
  have hb3_2 := hid fb3
  have hb4_2 := hid fb4
  have hbl2 := hbb
  clear hw hbb fb1 fb3 fb4 hx2 hbl1 hb1_1 hle3 hn3 hle4 hn4
  (repeat ((fail_if_success (with_reducible refine Go.at_region ?_)); go_step))
  refine draw_all (by kernel_rfl) (by kernel_rfl) (by kernel_rfl) ?_
  (refine calm_whole rfl _ _ rfl _ rfl _ _ hb4_2.out gWd (iW r2) ?_; simp only [Act.put, pvA, pv0, pv1])
  (refine calm_whole rfl _ _ rfl _ rfl _ _ hb3_2.out gWd (iW r1) ?_; simp only [Act.put, pvA, pv0, pv1])
  (apply calm_on rfl; (focus (intro W hB; go_simp; refine (c3.out W).mono ?_; rintro _ _ ⟨rfl, hb'⟩; exact ⟨rfl, hb'⟩)); simp only [Act.put, pvA, pv0, pv1])
  (refine calm_build rfl 25 _ rfl (cellsW 1) (by first | (simp only [List.map_toArray, List.map_cons, List.map_nil]; exact h1b.out) | exact h1b.out) ?_; simp only [Act.put, pvA, pv0, pv1])
  (apply calm_on rfl; (focus (intro W hB; go_simp; refine (cd.out W).mono ?_; rintro _ _ ⟨rfl, hb'⟩; exact ⟨rfl, hb'⟩)); simp only [Act.put, pvA, pv0, pv1])
  (refine calm_whole rfl _ _ rfl _ rfl _ _ hb3_2.out gWd (iW r1) ?_; simp only [Act.put, pvA, pv0, pv1])
  (refine calm_whole rfl _ _ rfl _ rfl _ _ hb4_2.out gWd (iW r2) ?_; simp only [Act.put, pvA, pv0, pv1])
  (apply calm_on rfl; (focus (intro W hB; go_simp; refine (c4.out W).mono ?_; rintro _ _ ⟨rfl, hb'⟩; exact ⟨rfl, hb'⟩)); simp only [Act.put, pvA, pv0, pv1])
  (apply calm_on rfl; (focus (intro W hB; go_simp; refine (c5.out W).mono ?_; rintro _ _ ⟨rfl, hb'⟩; exact ⟨rfl, hb'⟩)); simp only [Act.put, pvA, pv0, pv1])
  (apply calm_on rfl; (focus (intro W hB; go_simp; refine (c6.out W).mono ?_; rintro _ _ ⟨rfl, hb'⟩; exact ⟨rfl, hb'⟩)); simp only [Act.put, pvA, pv0, pv1])
  iterate 2 (apply calm_on rfl; (focus (intro W hB; go_simp; exact ⟨rfl, Below.refl _ _⟩)); simp only [Act.put, pvA, pv0, pv1])
  refine calm_nil ?_
  intro w3 hs3
  (try dsimp only)
  have hb1_3 := hid (hb1_2.out.step hs3)
  have hb3_3 := hid (hb3_2.out.step hs3)
  have hb4_3 := hid (hb4_2.out.step hs3)
  have hbl3 := hbl2.trans (hs3.mono hbl2.size)
  clear hs3 hbl2 hb1_2 hb3_2 hb4_2
  (repeat ((fail_if_success (with_reducible refine Go.at_region ?_)); go_step))
  go_ret
  exact ⟨rfl, hbl3⟩
theorem on_any (p : P2) (w : World) (hp : LtP p) : Calls Try.prog 13 #[pt p] w fun e w' => e = .returned (.bool (onB p)) ∧ Below w.heap.size w w' := by
  cases hx : propB p.x with
  | false =>
    have h : onB p = false := by unfold onB; rw [show decide (p.x < pN) = false from hx]; rfl
    rw [h]; exact on_x p w hp hx
  | true =>
    cases hy : propB p.y with
    | false =>
      have h : onB p = false := by unfold onB; rw [show decide (p.y < pN) = false from hy, Bool.false_and, Bool.and_false]
      rw [h]; exact on_y p w hp hx hy
    | true =>
      have h : onB p = decide (onL p = onR p) := by unfold onB; rw [show decide (p.x < pN) = true from hx, show decide (p.y < pN) = true from hy, Bool.true_and, Bool.true_and]
      rw [h]; exact on_on p w hp hx hy
end Go.Proofs.Ytejnnghfelpioaa
namespace Go.Proofs.Ytejnnghfelpioaa
open Go.RowKit
theorem eq_wd2 (d x y : Nat) (hx : x < 2 ^ 256) (hy : y < 2 ^ 256) (w : World) : (Op.equalIn (d + 2) 25 (.agg (cellsW x)) (.agg (cellsW y))).run Try.prog w = .ok (decide (x = y)) w := by
  have h := run_equalIn_ints (P := Try.prog) w d (t := 25) (k := .u64) uWd (by kernel_rfl) (by kernel_rfl) (by kernel_rfl) [lm x 0, lm x 1, lm x 2, lm x 3] [lm y 0, lm y 1, lm y 2, lm y 3] rfl rfl
  have e : decide ([lm x 0, lm x 1, lm x 2, lm x 3] = [lm y 0, lm y 1, lm y 2, lm y 3]) = decide (x = y) := by
    by_cases he : x = y
    · rw [he, decide_eq_true rfl, decide_eq_true rfl]
    · rw [decide_eq_false he, decide_eq_false]
      intro h2
      apply he
      refine wd_inj hx hy ?_
      simp only [List.cons.injEq, and_true] at h2
      unfold cellsW
      rw [h2.1, h2.2.1, h2.2.2.1, h2.2.2.2]
  rw [e] at h
  exact h
theorem fieldsPe : Try.prog.underlying 44 = some (.struct (Try.prog.fieldsOf 44)) := by kernel_rfl
theorem fieldsPe2 : (Try.prog.fieldsOf 44).toList.map (fun f => (f.type, f.offset, f.name != "_")) = [(25, 0, true), (25, 4, true)] := by kernel_rfl
theorem part_wd (w : World) (cs : Array Value) (o x : Nat) (h : cs.extract o (o + 4) = cellsW x) : (part 25 cs o).run Try.prog w = .ok (.agg (cellsW x)) w := by
  have hagg : ∀ w, (isAgg 25).run Try.prog w = .ok true w := fun w => by
    unfold isAgg; rw [Sem.run_bind, run_underlying uWd w]; rfl
  have hsz : ∀ w, (sizeOf 25).run Try.prog w = .ok 4 w := fun w => by
    have hi := iWd
    cases hq : Try.prog.info? 25 with
    | none => rw [hq] at hi; cases hi
    | some i => rw [hq] at hi; simp at hi; simp [sizeOf, typeInfo, hq, hi]
  simp [part, Sem.run_bind, hagg, hsz, h]
theorem eq_pt (a b : P2) (ha : LtP a) (hb : LtP b) (w : World) : (Op.equalIn 10000 44 (.agg (cellsP a)) (.agg (cellsP b))).run Try.prog w = .ok (decide (a.x = b.x ∧ a.y = b.y)) w := by
  rw [run_equalIn_struct w 9999 44 _ _ fieldsPe (by kernel_rfl)]
  have hf := fieldsPe2
  generalize (Try.prog.fieldsOf 44).toList = fs at hf
  have hl : fs.length = 2 := by have := congrArg List.length hf; simpa using this
  match fs, hl, hf with
  | [f1, f2], _, hf =>
    simp only [List.map_cons, List.map_nil, List.cons.injEq, Prod.mk.injEq, and_true] at hf
    obtain ⟨⟨t1, o1, n1⟩, t2, o2, n2⟩ := hf
    have n1' : f1.name ≠ "_" := by simpa using n1
    have n2' : f2.name ≠ "_" := by simpa using n2
    have p1 : ∀ (c : P2) (w : World), (part 25 (cellsP c) 0).run Try.prog w = .ok (.agg (cellsW c.x)) w := fun c w => part_wd w _ _ _ (by simp [cellsP, cellsW])
    have p2 : ∀ (c : P2) (w : World), (part 25 (cellsP c) 4).run Try.prog w = .ok (.agg (cellsW c.y)) w := fun c w => part_wd w _ _ _ (by simp [cellsP, cellsW])
    have q1 := fun w => eq_wd2 9997 a.x b.x ha.x hb.x w
    have q2 := fun w => eq_wd2 9997 a.y b.y ha.y hb.y w
    simp only [Op.eqFields, t1, o1, t2, o2, n1', n2', ne_eq, not_false_eq_true, if_true, Sem.run_bind, p1, p2, q1, q2, Result.andThen_ok, Sem.run_ite, Sem.run_pure]
    by_cases hx : a.x = b.x <;> by_cases hy : a.y = b.y <;> simp [hx, hy]
theorem bzPe : Try.prog.built 44 [] = some (cellsP zeroP) := by kernel_rfl
def addP (a b : P2) : P2 := if (onB a && onB b) = true then (if a.x = b.x ∧ a.y = b.y then pointW (twiceW (widenW a)) else pointW (plusW (widenW a) (widenW b))) else zeroP
def mulP (n : Nat) (p : P2) : P2 := if onB p = true then pointW (mW n (widenW p)) else zeroP
theorem pointW_lt (p : W4) : LtP (pointW p) := ⟨p_mod_lt _, p_mod_lt _⟩
theorem zeroP_lt : LtP zeroP := ⟨by decide, by decide⟩
theorem mulP_lt (n : Nat) (p : P2) : LtP (mulP n p) := by
  unfold mulP
  split
  · exact pointW_lt _
  · exact zeroP_lt
set_option maxRecDepth 100000 in
set_option maxHeartbeats 4000000 in
theorem add_a (a b : P2) (w : World) (ha : LtP a) (hb : LtP b) (ha1 : onB a = false) : Calls Try.prog 17 #[pt a, pt b] w fun e w' => e = .returned (pt zeroP) ∧ Below w.heap.size w w' := by
  have ca := hid fun w => on_any a w ha
  have cb := hid fun w => on_any b w hb
  rw [ha1] at ca
  clear ha hb ha1 cb
  unfold pt at *
  obtain ⟨w0, hw0, k2, k3, k4, hbl0⟩ := entry3 w 44 (cellsP a) 44 (cellsP b) 44 (cellsP zeroP)
  have hb2_0 := hid k2
  have hb3_0 := hid k3
  have hb4_0 := hid k4
  clear k2 k3 k4
  go_enter Try.func17, Try.ntmps17
  (repeat ((fail_if_success (with_reducible refine Go.at_region ?_)); go_step))
  refine wp_region_lit ?_
  (refine wpList_box 44 (.tmp 0) rfl rfl (cellsP a) rfl ?_; simp only [Act.put, pvA, pv0, pv1]; (try simp only [World.size_alloc]))
  (refine wpList_box 44 (.tmp 1) rfl rfl (cellsP b) rfl ?_; simp only [Act.put, pvA, pv0, pv1]; (try simp only [World.size_alloc]))
  (refine wpList_alloc_new rfl 44 rfl (cellsP zeroP) zPe ?_; simp only [Act.put, pvA, pv0, pv1]; (try simp only [World.size_alloc]))
  refine wpList_nil ?_
  rw [← hw0]
  clear hw0
  (repeat ((fail_if_success (with_reducible refine Go.at_region ?_)); go_step))
  refine list_all ?_
  (refine calm_whole rfl _ _ rfl _ rfl _ _ hb2_0.out gPe (iPe a) ?_; simp only [Act.put, pvA, pv0, pv1])
  (apply calm_on rfl; (focus (intro W hB; go_simp; refine (ca.out W).mono ?_; rintro _ _ ⟨rfl, hb'⟩; exact ⟨rfl, hb'⟩)); simp only [Act.put, pvA, pv0, pv1])
  iterate 2 (apply calm_on rfl; (focus (intro W hB; go_simp; exact ⟨rfl, Below.refl _ _⟩)); simp only [Act.put, pvA, pv0, pv1])
  iterate 3 (refine calm_off rfl ?_; simp only [Act.put, pvA, pv0, pv1])
  (apply calm_on rfl; (focus (intro W hB; go_simp; exact ⟨rfl, Below.refl _ _⟩)); simp only [Act.put, pvA, pv0, pv1])
  refine calm_nil ?_
  intro w1 hs1
  (try dsimp only)
  have hb2_1 := hid (hb2_0.out.step hs1)
  have hb3_1 := hid (hb3_0.out.step hs1)
  have hb4_1 := hid (hb4_0.out.step hs1)
  have hbl1 := hbl0.trans (hs1.mono hbl0.size)
  clear hs1 hbl0 hb2_0 hb3_0 hb4_0
  (repeat ((fail_if_success (with_reducible refine Go.at_region ?_)); go_step))
  refine list_tail 1 ?_
  simp only [List.take_succ_cons, List.take_zero]
  (refine calm_build rfl 44 _ rfl (cellsP zeroP) (by first | (simp only [List.map_toArray, List.map_cons, List.map_nil]; exact bzPe) | exact bzPe) ?_; simp only [Act.put, pvA, pv0, pv1])
  refine calm_nil ?_
  intro wx2 hx2
  simp only [List.drop_succ_cons, List.drop_zero]
  (try simp only [Act.put, pvA, pv0, pv1])
  have fb2 := hb2_1.out.step hx2
  have fb3 := hb3_1.out.step hx2
  have fb4 := hb4_1.out.step hx2
  have hbb := hbl1.trans (hx2.mono hbl1.size)
  refine wpList_set _ _ _ rfl rfl rfl _ _ rfl rfl _ _ fb4 (iPe zeroP) rfl (one_cellsP zeroP) ?_
  replace fb2 := fb2.other (show w.heap.size ≠ (w.heap.size + 1 + 1) by omega) (cellsP zeroP)
  replace fb3 := fb3.other (show (w.heap.size + 1) ≠ (w.heap.size + 1 + 1) by omega) (cellsP zeroP)
  replace fb4 := fb4.set (cellsP zeroP)
  replace hbb := below_set hbb (w.heap.size + 1 + 1) (by omega) (cellsP zeroP)
  refine wpList_nil ?_
  obtain ⟨w2, hw⟩ : ∃ z, z = (wx2.setRow (w.heap.size + 1 + 1) (cellsP zeroP)) := ⟨_, rfl⟩
  rw [← hw] at hbb fb2 fb3 fb4 ⊢
  have hb2_2 := hid fb2
  have hb3_2 := hid fb3
  have hb4_2 := hid fb4
  have hbl2 := hbb
  clear hw hbb fb2 fb3 fb4 hx2 hbl1 hb2_1 hb3_1 hb4_1 
  (repeat ((fail_if_success (with_reducible refine Go.at_region ?_)); go_step))
  refine ret_blk (w.heap.size + 1 + 1) 44 (cellsP zeroP) rfl rfl hb4_2.out gPe (iPe zeroP) rfl ?_
  exact ⟨rfl, hbl2⟩
set_option maxRecDepth 100000 in
set_option maxHeartbeats 4000000 in
theorem add_b (a b : P2) (w : World) (ha : LtP a) (hb : LtP b) (ha1 : onB a = true) (hb1 : onB b = false) : Calls Try.prog 17 #[pt a, pt b] w fun e w' => e = .returned (pt zeroP) ∧ Below w.heap.size w w' := by
  have ca := hid fun w => on_any a w ha
  have cb := hid fun w => on_any b w hb
  rw [ha1] at ca
  rw [hb1] at cb
  clear ha hb ha1 hb1
  unfold pt at *
  obtain ⟨w0, hw0, k2, k3, k4, hbl0⟩ := entry3 w 44 (cellsP a) 44 (cellsP b) 44 (cellsP zeroP)
  have hb2_0 := hid k2
  have hb3_0 := hid k3
  have hb4_0 := hid k4
  clear k2 k3 k4
  go_enter Try.func17, Try.ntmps17
  (repeat ((fail_if_success (with_reducible refine Go.at_region ?_)); go_step))
  refine wp_region_lit ?_
  (refine wpList_box 44 (.tmp 0) rfl rfl (cellsP a) rfl ?_; simp only [Act.put, pvA, pv0, pv1]; (try simp only [World.size_alloc]))
  (refine wpList_box 44 (.tmp 1) rfl rfl (cellsP b) rfl ?_; simp only [Act.put, pvA, pv0, pv1]; (try simp only [World.size_alloc]))
  (refine wpList_alloc_new rfl 44 rfl (cellsP zeroP) zPe ?_; simp only [Act.put, pvA, pv0, pv1]; (try simp only [World.size_alloc]))
  refine wpList_nil ?_
  rw [← hw0]
  clear hw0
  (repeat ((fail_if_success (with_reducible refine Go.at_region ?_)); go_step))
  refine list_all ?_
  (refine calm_whole rfl _ _ rfl _ rfl _ _ hb2_0.out gPe (iPe a) ?_; simp only [Act.put, pvA, pv0, pv1])
  (apply calm_on rfl; (focus (intro W hB; go_simp; refine (ca.out W).mono ?_; rintro _ _ ⟨rfl, hb'⟩; exact ⟨rfl, hb'⟩)); simp only [Act.put, pvA, pv0, pv1])
  iterate 2 (apply calm_on rfl; (focus (intro W hB; go_simp; exact ⟨rfl, Below.refl _ _⟩)); simp only [Act.put, pvA, pv0, pv1])
  (refine calm_whole rfl _ _ rfl _ rfl _ _ hb3_0.out gPe (iPe b) ?_; simp only [Act.put, pvA, pv0, pv1])
  (apply calm_on rfl; (focus (intro W hB; go_simp; refine (cb.out W).mono ?_; rintro _ _ ⟨rfl, hb'⟩; exact ⟨rfl, hb'⟩)); simp only [Act.put, pvA, pv0, pv1])
  iterate 2 (apply calm_on rfl; (focus (intro W hB; go_simp; exact ⟨rfl, Below.refl _ _⟩)); simp only [Act.put, pvA, pv0, pv1])
  refine calm_nil ?_
  intro w1 hs1
  (try dsimp only)
  have hb2_1 := hid (hb2_0.out.step hs1)
  have hb3_1 := hid (hb3_0.out.step hs1)
  have hb4_1 := hid (hb4_0.out.step hs1)
  have hbl1 := hbl0.trans (hs1.mono hbl0.size)
  clear hs1 hbl0 hb2_0 hb3_0 hb4_0
  (repeat ((fail_if_success (with_reducible refine Go.at_region ?_)); go_step))
  refine list_tail 1 ?_
  simp only [List.take_succ_cons, List.take_zero]
  (refine calm_build rfl 44 _ rfl (cellsP zeroP) (by first | (simp only [List.map_toArray, List.map_cons, List.map_nil]; exact bzPe) | exact bzPe) ?_; simp only [Act.put, pvA, pv0, pv1])
  refine calm_nil ?_
  intro wx2 hx2
  simp only [List.drop_succ_cons, List.drop_zero]
  (try simp only [Act.put, pvA, pv0, pv1])
  have fb2 := hb2_1.out.step hx2
  have fb3 := hb3_1.out.step hx2
  have fb4 := hb4_1.out.step hx2
  have hbb := hbl1.trans (hx2.mono hbl1.size)
  refine wpList_set _ _ _ rfl rfl rfl _ _ rfl rfl _ _ fb4 (iPe zeroP) rfl (one_cellsP zeroP) ?_
  replace fb2 := fb2.other (show w.heap.size ≠ (w.heap.size + 1 + 1) by omega) (cellsP zeroP)
  replace fb3 := fb3.other (show (w.heap.size + 1) ≠ (w.heap.size + 1 + 1) by omega) (cellsP zeroP)
  replace fb4 := fb4.set (cellsP zeroP)
  replace hbb := below_set hbb (w.heap.size + 1 + 1) (by omega) (cellsP zeroP)
  refine wpList_nil ?_
  obtain ⟨w2, hw⟩ : ∃ z, z = (wx2.setRow (w.heap.size + 1 + 1) (cellsP zeroP)) := ⟨_, rfl⟩
  rw [← hw] at hbb fb2 fb3 fb4 ⊢
  have hb2_2 := hid fb2
  have hb3_2 := hid fb3
  have hb4_2 := hid fb4
  have hbl2 := hbb
  clear hw hbb fb2 fb3 fb4 hx2 hbl1 hb2_1 hb3_1 hb4_1 
  (repeat ((fail_if_success (with_reducible refine Go.at_region ?_)); go_step))
  refine ret_blk (w.heap.size + 1 + 1) 44 (cellsP zeroP) rfl rfl hb4_2.out gPe (iPe zeroP) rfl ?_
  exact ⟨rfl, hbl2⟩
set_option maxRecDepth 100000 in
set_option maxHeartbeats 4000000 in
theorem add_same (a b : P2) (w : World) (ha : LtP a) (hb : LtP b) (ha1 : onB a = true) (hb1 : onB b = true) (he : a.x = b.x ∧ a.y = b.y) : Calls Try.prog 17 #[pt a, pt b] w fun e w' => e = .returned (pt (pointW (twiceW (widenW a)))) ∧ Below w.heap.size w w' := by
  have ca := hid fun w => on_any a w ha
  have cb := hid fun w => on_any b w hb
  rw [ha1] at ca
  rw [hb1] at cb
  have hq := eq_pt a b ha hb
  rw [decide_eq_true he] at hq
  have c1 := hid fun w => widen_any a w ha
  have t1 := widenW_t a ha
  obtain ⟨r1, e1⟩ : ∃ r, r = widenW a := ⟨_, rfl⟩
  rw [← e1] at c1 t1
  replace t1 := hid t1
  have E1 := hid e1
  clear e1
  have c2 := hid fun w => twiceW_any r1 w t1.out
  have t2 := twiceW_t r1 t1.out
  obtain ⟨r2, e2⟩ : ∃ r, r = twiceW r1 := ⟨_, rfl⟩
  rw [← e2] at c2 t2
  replace t2 := hid t2
  have E2 := hid e2
  clear e2
  have c3 := hid fun w => pointW_any r2 w t2.out
  obtain ⟨r3, e3⟩ : ∃ r, r = pointW r2 := ⟨_, rfl⟩
  rw [← e3] at c3
  have E3 := hid e3
  clear e3
  clear ha hb ha1 hb1 he
  unfold pt w4 at *
  obtain ⟨w0, hw0, k2, k3, k4, hbl0⟩ := entry3 w 44 (cellsP a) 44 (cellsP b) 44 (cellsP zeroP)
  have hb2_0 := hid k2
  have hb3_0 := hid k3
  have hb4_0 := hid k4
  clear k2 k3 k4
  go_enter Try.func17, Try.ntmps17
  (repeat ((fail_if_success (with_reducible refine Go.at_region ?_)); go_step))
  refine wp_region_lit ?_
  (refine wpList_box 44 (.tmp 0) rfl rfl (cellsP a) rfl ?_; simp only [Act.put, pvA, pv0, pv1]; (try simp only [World.size_alloc]))
  (refine wpList_box 44 (.tmp 1) rfl rfl (cellsP b) rfl ?_; simp only [Act.put, pvA, pv0, pv1]; (try simp only [World.size_alloc]))
  (refine wpList_alloc_new rfl 44 rfl (cellsP zeroP) zPe ?_; simp only [Act.put, pvA, pv0, pv1]; (try simp only [World.size_alloc]))
  refine wpList_nil ?_
  rw [← hw0]
  clear hw0
  (repeat ((fail_if_success (with_reducible refine Go.at_region ?_)); go_step))
  refine list_all ?_
  (refine calm_whole rfl _ _ rfl _ rfl _ _ hb2_0.out gPe (iPe a) ?_; simp only [Act.put, pvA, pv0, pv1])
  (apply calm_on rfl; (focus (intro W hB; go_simp; refine (ca.out W).mono ?_; rintro _ _ ⟨rfl, hb'⟩; exact ⟨rfl, hb'⟩)); simp only [Act.put, pvA, pv0, pv1])
  iterate 2 (apply calm_on rfl; (focus (intro W hB; go_simp; exact ⟨rfl, Below.refl _ _⟩)); simp only [Act.put, pvA, pv0, pv1])
  (refine calm_whole rfl _ _ rfl _ rfl _ _ hb3_0.out gPe (iPe b) ?_; simp only [Act.put, pvA, pv0, pv1])
  (apply calm_on rfl; (focus (intro W hB; go_simp; refine (cb.out W).mono ?_; rintro _ _ ⟨rfl, hb'⟩; exact ⟨rfl, hb'⟩)); simp only [Act.put, pvA, pv0, pv1])
  iterate 2 (apply calm_on rfl; (focus (intro W hB; go_simp; exact ⟨rfl, Below.refl _ _⟩)); simp only [Act.put, pvA, pv0, pv1])
  refine calm_nil ?_
  intro w1 hs1
  (try dsimp only)
  have hb2_1 := hid (hb2_0.out.step hs1)
  have hb3_1 := hid (hb3_0.out.step hs1)
  have hb4_1 := hid (hb4_0.out.step hs1)
  have hbl1 := hbl0.trans (hs1.mono hbl0.size)
  clear hs1 hbl0 hb2_0 hb3_0 hb4_0
  (repeat ((fail_if_success (with_reducible refine Go.at_region ?_)); go_step))
  refine list_all ?_
  (refine calm_whole rfl _ _ rfl _ rfl _ _ hb2_1.out gPe (iPe a) ?_; simp only [Act.put, pvA, pv0, pv1])
  (refine calm_whole rfl _ _ rfl _ rfl _ _ hb3_1.out gPe (iPe b) ?_; simp only [Act.put, pvA, pv0, pv1])
  (apply calm_on rfl; (focus (intro W hB; go_simp; exact ⟨rfl, Below.refl _ _⟩)); simp only [Act.put, pvA, pv0, pv1])
  refine calm_nil ?_
  intro w2 hs2
  (try dsimp only)
  have hb2_2 := hid (hb2_1.out.step hs2)
  have hb3_2 := hid (hb3_1.out.step hs2)
  have hb4_2 := hid (hb4_1.out.step hs2)
  have hbl2 := hbl1.trans (hs2.mono hbl1.size)
  clear hs2 hbl1 hb2_1 hb3_1 hb4_1
  (repeat ((fail_if_success (with_reducible refine Go.at_region ?_)); go_step))
  refine list_tail 4 ?_
  simp only [List.take_succ_cons, List.take_zero]
  (refine calm_whole rfl _ _ rfl _ rfl _ _ hb2_2.out gPe (iPe a) ?_; simp only [Act.put, pvA, pv0, pv1])
  (apply calm_on rfl; (focus (intro W hB; go_simp; refine (c1.out W).mono ?_; rintro _ _ ⟨rfl, hb'⟩; exact ⟨rfl, hb'⟩)); simp only [Act.put, pvA, pv0, pv1])
  (apply calm_on rfl; (focus (intro W hB; go_simp; refine (c2.out W).mono ?_; rintro _ _ ⟨rfl, hb'⟩; exact ⟨rfl, hb'⟩)); simp only [Act.put, pvA, pv0, pv1])
  (apply calm_on rfl; (focus (intro W hB; go_simp; refine (c3.out W).mono ?_; rintro _ _ ⟨rfl, hb'⟩; exact ⟨rfl, hb'⟩)); simp only [Act.put, pvA, pv0, pv1])
  refine calm_nil ?_
  intro wx3 hx3
  simp only [List.drop_succ_cons, List.drop_zero]
  (try simp only [Act.put, pvA, pv0, pv1])
  have fb2 := hb2_2.out.step hx3
  have fb3 := hb3_2.out.step hx3
  have fb4 := hb4_2.out.step hx3
  have hbb := hbl2.trans (hx3.mono hbl2.size)
  refine wpList_set _ _ _ rfl rfl rfl _ _ rfl rfl _ _ fb4 (iPe r3) rfl (one_cellsP r3) ?_
  replace fb2 := fb2.other (show w.heap.size ≠ (w.heap.size + 1 + 1) by omega) (cellsP r3)
  replace fb3 := fb3.other (show (w.heap.size + 1) ≠ (w.heap.size + 1 + 1) by omega) (cellsP r3)
  replace fb4 := fb4.set (cellsP r3)
  replace hbb := below_set hbb (w.heap.size + 1 + 1) (by omega) (cellsP r3)
  refine wpList_nil ?_
  obtain ⟨w3, hw⟩ : ∃ z, z = (wx3.setRow (w.heap.size + 1 + 1) (cellsP r3)) := ⟨_, rfl⟩
  rw [← hw] at hbb fb2 fb3 fb4 ⊢
  have hb2_3 := hid fb2
  have hb3_3 := hid fb3
  have hb4_3 := hid fb4
  have hbl3 := hbb
  clear hw hbb fb2 fb3 fb4 hx3 hbl2 hb2_2 hb3_2 hb4_2 
  (repeat ((fail_if_success (with_reducible refine Go.at_region ?_)); go_step))
  refine ret_blk (w.heap.size + 1 + 1) 44 (cellsP r3) rfl rfl hb4_3.out gPe (iPe r3) rfl ?_
  exact ⟨(by rw [E3.out, E2.out, E1.out]; first | done | rfl), hbl3⟩
set_option maxRecDepth 100000 in
set_option maxHeartbeats 4000000 in
theorem add_two (a b : P2) (w : World) (ha : LtP a) (hb : LtP b) (ha1 : onB a = true) (hb1 : onB b = true) (he : ¬ (a.x = b.x ∧ a.y = b.y)) : Calls Try.prog 17 #[pt a, pt b] w fun e w' => e = .returned (pt (pointW (plusW (widenW a) (widenW b)))) ∧ Below w.heap.size w w' := by
  have ca := hid fun w => on_any a w ha
  have cb := hid fun w => on_any b w hb
  rw [ha1] at ca
  rw [hb1] at cb
  have hq := eq_pt a b ha hb
  rw [decide_eq_false he] at hq
  have c1 := hid fun w => widen_any a w ha
  have t1 := widenW_t a ha
  obtain ⟨r1, e1⟩ : ∃ r, r = widenW a := ⟨_, rfl⟩
  rw [← e1] at c1 t1
  replace t1 := hid t1
  have E1 := hid e1
  clear e1
  have c2 := hid fun w => widen_any b w hb
  have t2 := widenW_t b hb
  obtain ⟨r2, e2⟩ : ∃ r, r = widenW b := ⟨_, rfl⟩
  rw [← e2] at c2 t2
  replace t2 := hid t2
  have E2 := hid e2
  clear e2
  have c3 := hid fun w => plusW_any r1 r2 w t1.out t2.out
  have t3 := plusW_t r1 r2 t1.out t2.out
  obtain ⟨r3, e3⟩ : ∃ r, r = plusW r1 r2 := ⟨_, rfl⟩
  rw [← e3] at c3 t3
  replace t3 := hid t3
  have E3 := hid e3
  clear e3
  have c4 := hid fun w => pointW_any r3 w t3.out
  obtain ⟨r4, e4⟩ : ∃ r, r = pointW r3 := ⟨_, rfl⟩
  rw [← e4] at c4
  have E4 := hid e4
  clear e4
  clear ha hb ha1 hb1 he
  unfold pt w4 at *
  obtain ⟨w0, hw0, k2, k3, k4, hbl0⟩ := entry3 w 44 (cellsP a) 44 (cellsP b) 44 (cellsP zeroP)
  have hb2_0 := hid k2
  have hb3_0 := hid k3
  have hb4_0 := hid k4
  clear k2 k3 k4
  go_enter Try.func17, Try.ntmps17
  (repeat ((fail_if_success (with_reducible refine Go.at_region ?_)); go_step))
  refine wp_region_lit ?_
  (refine wpList_box 44 (.tmp 0) rfl rfl (cellsP a) rfl ?_; simp only [Act.put, pvA, pv0, pv1]; (try simp only [World.size_alloc]))
  (refine wpList_box 44 (.tmp 1) rfl rfl (cellsP b) rfl ?_; simp only [Act.put, pvA, pv0, pv1]; (try simp only [World.size_alloc]))
  (refine wpList_alloc_new rfl 44 rfl (cellsP zeroP) zPe ?_; simp only [Act.put, pvA, pv0, pv1]; (try simp only [World.size_alloc]))
  refine wpList_nil ?_
  rw [← hw0]
  clear hw0
  (repeat ((fail_if_success (with_reducible refine Go.at_region ?_)); go_step))
  refine list_all ?_
  (refine calm_whole rfl _ _ rfl _ rfl _ _ hb2_0.out gPe (iPe a) ?_; simp only [Act.put, pvA, pv0, pv1])
  (apply calm_on rfl; (focus (intro W hB; go_simp; refine (ca.out W).mono ?_; rintro _ _ ⟨rfl, hb'⟩; exact ⟨rfl, hb'⟩)); simp only [Act.put, pvA, pv0, pv1])
  iterate 2 (apply calm_on rfl; (focus (intro W hB; go_simp; exact ⟨rfl, Below.refl _ _⟩)); simp only [Act.put, pvA, pv0, pv1])
  (refine calm_whole rfl _ _ rfl _ rfl _ _ hb3_0.out gPe (iPe b) ?_; simp only [Act.put, pvA, pv0, pv1])
  (apply calm_on rfl; (focus (intro W hB; go_simp; refine (cb.out W).mono ?_; rintro _ _ ⟨rfl, hb'⟩; exact ⟨rfl, hb'⟩)); simp only [Act.put, pvA, pv0, pv1])
  iterate 2 (apply calm_on rfl; (focus (intro W hB; go_simp; exact ⟨rfl, Below.refl _ _⟩)); simp only [Act.put, pvA, pv0, pv1])
  refine calm_nil ?_
  intro w1 hs1
  (try dsimp only)
  have hb2_1 := hid (hb2_0.out.step hs1)
  have hb3_1 := hid (hb3_0.out.step hs1)
  have hb4_1 := hid (hb4_0.out.step hs1)
  have hbl1 := hbl0.trans (hs1.mono hbl0.size)
  clear hs1 hbl0 hb2_0 hb3_0 hb4_0
  (repeat ((fail_if_success (with_reducible refine Go.at_region ?_)); go_step))
  refine list_all ?_
  (refine calm_whole rfl _ _ rfl _ rfl _ _ hb2_1.out gPe (iPe a) ?_; simp only [Act.put, pvA, pv0, pv1])
  (refine calm_whole rfl _ _ rfl _ rfl _ _ hb3_1.out gPe (iPe b) ?_; simp only [Act.put, pvA, pv0, pv1])
  (apply calm_on rfl; (focus (intro W hB; go_simp; exact ⟨rfl, Below.refl _ _⟩)); simp only [Act.put, pvA, pv0, pv1])
  refine calm_nil ?_
  intro w2 hs2
  (try dsimp only)
  have hb2_2 := hid (hb2_1.out.step hs2)
  have hb3_2 := hid (hb3_1.out.step hs2)
  have hb4_2 := hid (hb4_1.out.step hs2)
  have hbl2 := hbl1.trans (hs2.mono hbl1.size)
  clear hs2 hbl1 hb2_1 hb3_1 hb4_1
  (repeat ((fail_if_success (with_reducible refine Go.at_region ?_)); go_step))
  refine draw_tail 6 (by kernel_rfl) (by kernel_rfl) (by kernel_rfl) ?_
  simp only [List.take_succ_cons, List.take_zero]
  (refine calm_whole rfl _ _ rfl _ rfl _ _ hb2_2.out gPe (iPe a) ?_; simp only [Act.put, pvA, pv0, pv1])
  (apply calm_on rfl; (focus (intro W hB; go_simp; refine (c1.out W).mono ?_; rintro _ _ ⟨rfl, hb'⟩; exact ⟨rfl, hb'⟩)); simp only [Act.put, pvA, pv0, pv1])
  (refine calm_whole rfl _ _ rfl _ rfl _ _ hb3_2.out gPe (iPe b) ?_; simp only [Act.put, pvA, pv0, pv1])
  (apply calm_on rfl; (focus (intro W hB; go_simp; refine (c2.out W).mono ?_; rintro _ _ ⟨rfl, hb'⟩; exact ⟨rfl, hb'⟩)); simp only [Act.put, pvA, pv0, pv1])
  (apply calm_on rfl; (focus (intro W hB; go_simp; refine (c3.out W).mono ?_; rintro _ _ ⟨rfl, hb'⟩; exact ⟨rfl, hb'⟩)); simp only [Act.put, pvA, pv0, pv1])
  (apply calm_on rfl; (focus (intro W hB; go_simp; refine (c4.out W).mono ?_; rintro _ _ ⟨rfl, hb'⟩; exact ⟨rfl, hb'⟩)); simp only [Act.put, pvA, pv0, pv1])
  refine calm_nil ?_
  intro wx3 hx3
  simp only [List.drop_succ_cons, List.drop_zero]
  (try simp only [Act.put, pvA, pv0, pv1])
  have fb2 := hb2_2.out.step hx3
  have fb3 := hb3_2.out.step hx3
  have fb4 := hb4_2.out.step hx3
  have hbb := hbl2.trans (hx3.mono hbl2.size)
  refine wpList_set _ _ _ rfl rfl rfl _ _ rfl rfl _ _ fb4 (iPe r4) rfl (one_cellsP r4) ?_
  replace fb2 := fb2.other (show w.heap.size ≠ (w.heap.size + 1 + 1) by omega) (cellsP r4)
  replace fb3 := fb3.other (show (w.heap.size + 1) ≠ (w.heap.size + 1 + 1) by omega) (cellsP r4)
  replace fb4 := fb4.set (cellsP r4)
  replace hbb := below_set hbb (w.heap.size + 1 + 1) (by omega) (cellsP r4)
  refine wpList_nil ?_
  obtain ⟨w3, hw⟩ : ∃ z, z = (wx3.setRow (w.heap.size + 1 + 1) (cellsP r4)) := ⟨_, rfl⟩
  rw [← hw] at hbb fb2 fb3 fb4 ⊢
  have hb2_3 := hid fb2
  have hb3_3 := hid fb3
  have hb4_3 := hid fb4
  have hbl3 := hbb
  clear hw hbb fb2 fb3 fb4 hx3 hbl2 hb2_2 hb3_2 hb4_2 
  (repeat ((fail_if_success (with_reducible refine Go.at_region ?_)); go_step))
  refine ret_blk (w.heap.size + 1 + 1) 44 (cellsP r4) rfl rfl hb4_3.out gPe (iPe r4) rfl ?_
  exact ⟨(by rw [E4.out, E3.out, E2.out, E1.out]; first | done | rfl), hbl3⟩
theorem add_any (a b : P2) (w : World) (ha : LtP a) (hb : LtP b) : Calls Try.prog 17 #[pt a, pt b] w fun e w' => e = .returned (pt (addP a b)) ∧ Below w.heap.size w w' := by
  unfold addP
  cases ha1 : onB a with
  | false => exact add_a a b w ha hb ha1
  | true =>
    cases hb1 : onB b with
    | false => exact add_b a b w ha hb ha1 hb1
    | true =>
      rw [if_pos (show (true && true) = true from rfl)]
      by_cases he : a.x = b.x ∧ a.y = b.y
      · rw [if_pos he]; exact add_same a b w ha hb ha1 hb1 he
      · rw [if_neg he]; exact add_two a b w ha hb ha1 hb1 he
set_option maxRecDepth 100000 in
set_option maxHeartbeats 4000000 in
theorem mul_off (n : Nat) (p : P2) (w : World) (hp : LtP p) (h1 : onB p = false) : Calls Try.prog 18 #[wd n, pt p] w fun e w' => e = .returned (pt zeroP) ∧ Below w.heap.size w w' := by
  have ca := hid fun w => on_any p w hp
  rw [h1] at ca
  clear hp h1
  unfold pt wd at *
  obtain ⟨w0, hw0, k2, k3, k4, hbl0⟩ := entry3 w 25 (cellsW n) 44 (cellsP p) 44 (cellsP zeroP)
  have hb2_0 := hid k2
  have hb3_0 := hid k3
  have hb4_0 := hid k4
  clear k2 k3 k4
  go_enter Try.func18, Try.ntmps18
  (repeat ((fail_if_success (with_reducible refine Go.at_region ?_)); go_step))
  refine wp_region_lit ?_
  (refine wpList_box 25 (.tmp 0) rfl rfl (cellsW n) rfl ?_; simp only [Act.put, pvA, pv0, pv1]; (try simp only [World.size_alloc]))
  (refine wpList_box 44 (.tmp 1) rfl rfl (cellsP p) rfl ?_; simp only [Act.put, pvA, pv0, pv1]; (try simp only [World.size_alloc]))
  (refine wpList_alloc_new rfl 44 rfl (cellsP zeroP) zPe ?_; simp only [Act.put, pvA, pv0, pv1]; (try simp only [World.size_alloc]))
  refine wpList_nil ?_
  rw [← hw0]
  clear hw0
  (repeat ((fail_if_success (with_reducible refine Go.at_region ?_)); go_step))
  refine list_all ?_
  (refine calm_whole rfl _ _ rfl _ rfl _ _ hb3_0.out gPe (iPe p) ?_; simp only [Act.put, pvA, pv0, pv1])
  (apply calm_on rfl; (focus (intro W hB; go_simp; refine (ca.out W).mono ?_; rintro _ _ ⟨rfl, hb'⟩; exact ⟨rfl, hb'⟩)); simp only [Act.put, pvA, pv0, pv1])
  (apply calm_on rfl; (focus (intro W hB; go_simp; exact ⟨rfl, Below.refl _ _⟩)); simp only [Act.put, pvA, pv0, pv1])
  refine calm_nil ?_
  intro w1 hs1
  (try dsimp only)
  have hb2_1 := hid (hb2_0.out.step hs1)
  have hb3_1 := hid (hb3_0.out.step hs1)
  have hb4_1 := hid (hb4_0.out.step hs1)
  have hbl1 := hbl0.trans (hs1.mono hbl0.size)
  clear hs1 hbl0 hb2_0 hb3_0 hb4_0
  (repeat ((fail_if_success (with_reducible refine Go.at_region ?_)); go_step))
  refine list_tail 1 ?_
  simp only [List.take_succ_cons, List.take_zero]
  (refine calm_build rfl 44 _ rfl (cellsP zeroP) (by first | (simp only [List.map_toArray, List.map_cons, List.map_nil]; exact bzPe) | exact bzPe) ?_; simp only [Act.put, pvA, pv0, pv1])
  refine calm_nil ?_
  intro wx2 hx2
  simp only [List.drop_succ_cons, List.drop_zero]
  (try simp only [Act.put, pvA, pv0, pv1])
  have fb2 := hb2_1.out.step hx2
  have fb3 := hb3_1.out.step hx2
  have fb4 := hb4_1.out.step hx2
  have hbb := hbl1.trans (hx2.mono hbl1.size)
  refine wpList_set _ _ _ rfl rfl rfl _ _ rfl rfl _ _ fb4 (iPe zeroP) rfl (one_cellsP zeroP) ?_
  replace fb2 := fb2.other (show w.heap.size ≠ (w.heap.size + 1 + 1) by omega) (cellsP zeroP)
  replace fb3 := fb3.other (show (w.heap.size + 1) ≠ (w.heap.size + 1 + 1) by omega) (cellsP zeroP)
  replace fb4 := fb4.set (cellsP zeroP)
  replace hbb := below_set hbb (w.heap.size + 1 + 1) (by omega) (cellsP zeroP)
  refine wpList_nil ?_
  obtain ⟨w2, hw⟩ : ∃ z, z = (wx2.setRow (w.heap.size + 1 + 1) (cellsP zeroP)) := ⟨_, rfl⟩
  rw [← hw] at hbb fb2 fb3 fb4 ⊢
  have hb2_2 := hid fb2
  have hb3_2 := hid fb3
  have hb4_2 := hid fb4
  have hbl2 := hbb
  clear hw hbb fb2 fb3 fb4 hx2 hbl1 hb2_1 hb3_1 hb4_1 
  (repeat ((fail_if_success (with_reducible refine Go.at_region ?_)); go_step))
  refine ret_blk (w.heap.size + 1 + 1) 44 (cellsP zeroP) rfl rfl hb4_2.out gPe (iPe zeroP) rfl ?_
  exact ⟨rfl, hbl2⟩
set_option maxRecDepth 100000 in
set_option maxHeartbeats 4000000 in
theorem mul_on (n : Nat) (p : P2) (w : World) (hp : LtP p) (h1 : onB p = true) : Calls Try.prog 18 #[wd n, pt p] w fun e w' => e = .returned (pt (pointW (mW n (widenW p)))) ∧ Below w.heap.size w w' := by
  have ca := hid fun w => on_any p w hp
  rw [h1] at ca
  have c1 := hid fun w => widen_any p w hp
  have t1 := widenW_t p hp
  obtain ⟨r1, e1⟩ : ∃ r, r = widenW p := ⟨_, rfl⟩
  rw [← e1] at c1 t1
  replace t1 := hid t1
  have E1 := hid e1
  clear e1
  have c2 := hid fun w => timesW_any r1 n w t1.out
  have t2 := mW_t n r1 t1.out
  obtain ⟨r2, e2⟩ : ∃ r, r = mW n r1 := ⟨_, rfl⟩
  rw [← e2] at c2 t2
  replace t2 := hid t2
  have E2 := hid e2
  clear e2
  have c3 := hid fun w => pointW_any r2 w t2.out
  obtain ⟨r3, e3⟩ : ∃ r, r = pointW r2 := ⟨_, rfl⟩
  rw [← e3] at c3
  have E3 := hid e3
  clear e3
  clear hp h1
  unfold pt w4 wd at *
  obtain ⟨w0, hw0, k2, k3, k4, hbl0⟩ := entry3 w 25 (cellsW n) 44 (cellsP p) 44 (cellsP zeroP)
  have hb2_0 := hid k2
  have hb3_0 := hid k3
  have hb4_0 := hid k4
  clear k2 k3 k4
  go_enter Try.func18, Try.ntmps18
  (repeat ((fail_if_success (with_reducible refine Go.at_region ?_)); go_step))
  refine wp_region_lit ?_
  (refine wpList_box 25 (.tmp 0) rfl rfl (cellsW n) rfl ?_; simp only [Act.put, pvA, pv0, pv1]; (try simp only [World.size_alloc]))
  (refine wpList_box 44 (.tmp 1) rfl rfl (cellsP p) rfl ?_; simp only [Act.put, pvA, pv0, pv1]; (try simp only [World.size_alloc]))
  (refine wpList_alloc_new rfl 44 rfl (cellsP zeroP) zPe ?_; simp only [Act.put, pvA, pv0, pv1]; (try simp only [World.size_alloc]))
  refine wpList_nil ?_
  rw [← hw0]
  clear hw0
  (repeat ((fail_if_success (with_reducible refine Go.at_region ?_)); go_step))
  refine list_all ?_
  (refine calm_whole rfl _ _ rfl _ rfl _ _ hb3_0.out gPe (iPe p) ?_; simp only [Act.put, pvA, pv0, pv1])
  (apply calm_on rfl; (focus (intro W hB; go_simp; refine (ca.out W).mono ?_; rintro _ _ ⟨rfl, hb'⟩; exact ⟨rfl, hb'⟩)); simp only [Act.put, pvA, pv0, pv1])
  (apply calm_on rfl; (focus (intro W hB; go_simp; exact ⟨rfl, Below.refl _ _⟩)); simp only [Act.put, pvA, pv0, pv1])
  refine calm_nil ?_
  intro w1 hs1
  (try dsimp only)
  have hb2_1 := hid (hb2_0.out.step hs1)
  have hb3_1 := hid (hb3_0.out.step hs1)
  have hb4_1 := hid (hb4_0.out.step hs1)
  have hbl1 := hbl0.trans (hs1.mono hbl0.size)
  clear hs1 hbl0 hb2_0 hb3_0 hb4_0
  (repeat ((fail_if_success (with_reducible refine Go.at_region ?_)); go_step))
  refine draw_tail 5 (by kernel_rfl) (by kernel_rfl) (by kernel_rfl) ?_
  simp only [List.take_succ_cons, List.take_zero]
  (refine calm_whole rfl _ _ rfl _ rfl _ _ hb3_1.out gPe (iPe p) ?_; simp only [Act.put, pvA, pv0, pv1])
  (apply calm_on rfl; (focus (intro W hB; go_simp; refine (c1.out W).mono ?_; rintro _ _ ⟨rfl, hb'⟩; exact ⟨rfl, hb'⟩)); simp only [Act.put, pvA, pv0, pv1])
  (refine calm_whole rfl _ _ rfl _ rfl _ _ hb2_1.out gWd (iW n) ?_; simp only [Act.put, pvA, pv0, pv1])
  (apply calm_on rfl; (focus (intro W hB; go_simp; refine (c2.out W).mono ?_; rintro _ _ ⟨rfl, hb'⟩; exact ⟨rfl, hb'⟩)); simp only [Act.put, pvA, pv0, pv1])
  (apply calm_on rfl; (focus (intro W hB; go_simp; refine (c3.out W).mono ?_; rintro _ _ ⟨rfl, hb'⟩; exact ⟨rfl, hb'⟩)); simp only [Act.put, pvA, pv0, pv1])
  refine calm_nil ?_
  intro wx2 hx2
  simp only [List.drop_succ_cons, List.drop_zero]
  (try simp only [Act.put, pvA, pv0, pv1])
  have fb2 := hb2_1.out.step hx2
  have fb3 := hb3_1.out.step hx2
  have fb4 := hb4_1.out.step hx2
  have hbb := hbl1.trans (hx2.mono hbl1.size)
  refine wpList_set _ _ _ rfl rfl rfl _ _ rfl rfl _ _ fb4 (iPe r3) rfl (one_cellsP r3) ?_
  replace fb2 := fb2.other (show w.heap.size ≠ (w.heap.size + 1 + 1) by omega) (cellsP r3)
  replace fb3 := fb3.other (show (w.heap.size + 1) ≠ (w.heap.size + 1 + 1) by omega) (cellsP r3)
  replace fb4 := fb4.set (cellsP r3)
  replace hbb := below_set hbb (w.heap.size + 1 + 1) (by omega) (cellsP r3)
  refine wpList_nil ?_
  obtain ⟨w2, hw⟩ : ∃ z, z = (wx2.setRow (w.heap.size + 1 + 1) (cellsP r3)) := ⟨_, rfl⟩
  rw [← hw] at hbb fb2 fb3 fb4 ⊢
  have hb2_2 := hid fb2
  have hb3_2 := hid fb3
  have hb4_2 := hid fb4
  have hbl2 := hbb
  clear hw hbb fb2 fb3 fb4 hx2 hbl1 hb2_1 hb3_1 hb4_1 
  (repeat ((fail_if_success (with_reducible refine Go.at_region ?_)); go_step))
  refine ret_blk (w.heap.size + 1 + 1) 44 (cellsP r3) rfl rfl hb4_2.out gPe (iPe r3) rfl ?_
  exact ⟨(by rw [E3.out, E2.out, E1.out]; first | done | rfl), hbl2⟩
theorem mul_any (n : Nat) (p : P2) (w : World) (hp : LtP p) : Calls Try.prog 18 #[wd n, pt p] w fun e w' => e = .returned (pt (mulP n p)) ∧ Below w.heap.size w w' := by
  unfold mulP
  cases h1 : onB p with
  | false => exact mul_off n p w hp h1
  | true => exact mul_on n p w hp h1
end Go.Proofs.Ytejnnghfelpioaa
namespace Go.Proofs.Ytejnnghfelpioaa
def IsP (r : Nat) : Prop := 2 ≤ r ∧ ∀ d, d ∣ r → d = 1 ∨ d = r
theorem IsP.euclid {r a b : Nat} (h : IsP r) (hd : r ∣ a * b) : r ∣ a ∨ r ∣ b := by
  rcases h.2 (Nat.gcd r a) (Nat.gcd_dvd_left r a) with h1 | h1
  · exact .inr (Nat.Coprime.dvd_of_dvd_mul_left h1 hd)
  · exact .inl (h1 ▸ Nat.gcd_dvd_right r a)
theorem IsP.coprime {r a : Nat} (h : IsP r) (hn : ¬ r ∣ a) : Nat.gcd r a = 1 := by
  rcases h.2 (Nat.gcd r a) (Nat.gcd_dvd_left r a) with h1 | h1
  · exact h1
  · exact absurd (h1 ▸ Nat.gcd_dvd_right r a) hn
theorem prime_div : ∀ (k n : Nat), n ≤ k → 2 ≤ n → ∃ r, IsP r ∧ r ∣ n ∧ (¬ IsP n → r * r ≤ n) := by
  intro k
  induction k with
  | zero => intro n h1 h2; omega
  | succ k ih =>
    intro n h1 h2
    by_cases hp : IsP n
    · exact ⟨n, hp, Nat.dvd_refl n, fun h => absurd hp h⟩
    · have hne : ∃ d, d ∣ n ∧ d ≠ 1 ∧ d ≠ n := by
        apply Classical.byContradiction
        intro hc
        apply hp
        refine ⟨h2, fun d hd => ?_⟩
        by_cases e1 : d = 1
        · exact .inl e1
        · by_cases e2 : d = n
          · exact .inr e2
          · exact absurd ⟨d, hd, e1, e2⟩ hc
      obtain ⟨d, ⟨e, he⟩, hd1, hd2⟩ := hne
      have hd0 : d ≠ 0 := by rintro rfl; rw [Nat.zero_mul] at he; omega
      have he0 : e ≠ 0 := by rintro rfl; rw [Nat.mul_zero] at he; omega
      have he1 : e ≠ 1 := by rintro rfl; rw [Nat.mul_one] at he; exact hd2 he.symm
      have hdl : d < n := by rw [he]; have := Nat.mul_lt_mul_of_pos_left (show 1 < e by omega) (show 0 < d by omega); omega
      have hel : e < n := by rw [he]; have := Nat.mul_lt_mul_of_pos_right (show 1 < d by omega) (show 0 < e by omega); omega
      rcases Nat.le_total d e with hle | hle
      · obtain ⟨r, hr, hrd, _⟩ := ih d (by omega) (by omega)
        refine ⟨r, hr, Nat.dvd_trans hrd ⟨e, he⟩, fun _ => ?_⟩
        have hrl := Nat.le_of_dvd (by omega) hrd
        rw [he]; exact Nat.mul_le_mul hrl (Nat.le_trans hrl hle)
      · obtain ⟨r, hr, hrd, _⟩ := ih e (by omega) (by omega)
        refine ⟨r, hr, Nat.dvd_trans hrd ⟨d, by rw [he, Nat.mul_comm]⟩, fun _ => ?_⟩
        have hrl := Nat.le_of_dvd (by omega) hrd
        rw [he]; exact Nat.mul_le_mul (Nat.le_trans hrl hle) hrl
def noDiv (n : Nat) : Nat → Bool
  | 0 => true
  | d + 1 => (decide (d < 2) || decide (n % d ≠ 0)) && noDiv n d
theorem noDiv_spec (n : Nat) : ∀ k, noDiv n k = true → ∀ d, 2 ≤ d → d < k → ¬ d ∣ n := by
  intro k
  induction k with
  | zero => intro _ d _ h; omega
  | succ k ih =>
    intro h d h2 hl
    rw [noDiv, Bool.and_eq_true] at h
    by_cases e : d = k
    · subst e
      intro hd
      have h1 := h.1
      rw [Bool.or_eq_true, decide_eq_true_eq, decide_eq_true_eq] at h1
      rcases h1 with h1 | h1
      · omega
      · exact h1 (Nat.mod_eq_zero_of_dvd hd)
    · exact ih h.2 d h2 (by omega)
theorem prime_trial (n k : Nat) (h2 : 2 ≤ n) (hk : n < k * k) (h : noDiv n k = true) : IsP n := by
  obtain ⟨r, hr, hd, hs⟩ := prime_div n n (Nat.le_refl _) h2
  apply Classical.byContradiction
  intro hn
  have h3 := hs hn
  have hrk : r < k := by
    rcases Nat.lt_or_ge r k with h4 | h4
    · exact h4
    · exact absurd (Nat.le_trans (Nat.mul_le_mul h4 h4) h3) (by omega)
  exact noDiv_spec n k h r hr.1 hrk hd
theorem pow_mod_cong {a b n : Nat} (h : a % n = b % n) : ∀ k, a ^ k % n = b ^ k % n := by
  intro k
  induction k with
  | zero => rfl
  | succ k ih => rw [Nat.pow_succ, Nat.pow_succ, Nat.mul_mod, ih, h, ← Nat.mul_mod]
theorem pow_one_mul {a n k : Nat} (h : a ^ k % n = 1 % n) (m : Nat) : a ^ (k * m) % n = 1 % n := by
  rw [Nat.pow_mul, pow_mod_cong h m, Nat.one_pow]
theorem pow_one_gcd {a n : Nat} : ∀ x y : Nat, a ^ x % n = 1 % n → a ^ y % n = 1 % n → a ^ (Nat.gcd x y) % n = 1 % n := by
  intro x
  induction x using Nat.strongRecOn with
  | ind x ih =>
    intro y hx hy
    by_cases h0 : x = 0
    · subst h0; rw [Nat.gcd_zero_left]; exact hy
    · rw [Nat.gcd_rec]
      refine ih (y % x) (Nat.mod_lt _ (by omega)) x ?_ hx
      have e : a ^ y = a ^ (x * (y / x)) * a ^ (y % x) := by rw [← Nat.pow_add, Nat.div_add_mod]
      have h1 := pow_one_mul hx (y / x)
      rw [e, Nat.mul_mod, h1, ← Nat.mul_mod, Nat.one_mul] at hy
      exact hy
def ch : Nat → Nat → Nat
  | _, 0 => 1
  | 0, _ + 1 => 0
  | n + 1, k + 1 => ch n k + ch n (k + 1)
theorem ch_over : ∀ n k, n < k → ch n k = 0 := by
  intro n
  induction n with
  | zero => intro k h; cases k with
    | zero => omega
    | succ k => rfl
  | succ n ih => intro k h; cases k with
    | zero => omega
    | succ k => rw [ch, ih k (by omega), ih (k + 1) (by omega)]
theorem ch_self : ∀ n, ch n n = 1 := by
  intro n
  induction n with
  | zero => rfl
  | succ n ih => rw [ch, ih, ch_over n (n + 1) (by omega)]
theorem ch_zero (n : Nat) : ch n 0 = 1 := by cases n <;> rfl
theorem ch_mul : ∀ n k, ch (n + 1) (k + 1) * (k + 1) = (n + 1) * ch n k := by
  intro n
  induction n with
  | zero => intro k; cases k with
    | zero => rfl
    | succ k => simp [ch]
  | succ n ih =>
    intro k
    cases k with
    | zero =>
      have h0 := ih 0
      rw [ch_zero, Nat.zero_add, Nat.mul_one, Nat.mul_one] at h0
      rw [show ch (n + 1 + 1) (0 + 1) = ch (n + 1) 0 + ch (n + 1) (0 + 1) from rfl, ch_zero, Nat.zero_add, Nat.mul_one, Nat.mul_one]; omega
    | succ k =>
      have h1 := ih k
      have h2 := ih (k + 1)
      rw [show ch (n + 1 + 1) (k + 1 + 1) = ch (n + 1) (k + 1) + ch (n + 1) (k + 1 + 1) from rfl]
      have h3 : ch (n + 1) (k + 1) * (k + 1 + 1) = (n + 1) * ch n k + ch (n + 1) (k + 1) := by rw [Nat.mul_succ, h1]
      rw [Nat.add_mul, h3, h2]
      have h4 : ch (n + 1) (k + 1) = ch n k + ch n (k + 1) := rfl
      have h5 : (n + 1 + 1) * ch (n + 1) (k + 1) = (n + 1) * ch (n + 1) (k + 1) + ch (n + 1) (k + 1) := Nat.succ_mul _ _
      rw [h5]
      have h6 : (n + 1) * ch (n + 1) (k + 1) = (n + 1) * ch n k + (n + 1) * ch n (k + 1) := by rw [h4, Nat.mul_add]
      omega
theorem dvd_sub_mod (a b r : Nat) (h : b % r = a % r) : r ∣ b - a := by
  rcases Nat.lt_or_ge b a with h1 | h1
  · rw [Nat.sub_eq_zero_of_le (Nat.le_of_lt h1)]; exact ⟨0, rfl⟩
  · exact ⟨b / r - a / r, by have e1 := Nat.div_add_mod b r; have e2 := Nat.div_add_mod a r; rw [Nat.mul_sub]; omega⟩
def sumTo (f : Nat → Nat) : Nat → Nat
  | 0 => 0
  | n + 1 => sumTo f n + f n
theorem sumTo_front (f : Nat → Nat) : ∀ n, sumTo f (n + 1) = f 0 + sumTo (fun k => f (k + 1)) n := by
  intro n
  induction n with
  | zero => simp [sumTo]
  | succ n ih => rw [sumTo, ih, sumTo, Nat.add_assoc]
theorem sumTo_add (f g : Nat → Nat) : ∀ n, sumTo (fun k => f k + g k) n = sumTo f n + sumTo g n := by
  intro n
  induction n with
  | zero => rfl
  | succ n ih => simp only [sumTo, ih]; omega
theorem sumTo_mul (f : Nat → Nat) (a : Nat) : ∀ n, sumTo (fun k => a * f k) n = a * sumTo f n := by
  intro n
  induction n with
  | zero => rfl
  | succ n ih => simp only [sumTo, ih, Nat.mul_add]
theorem sumTo_congr {f g : Nat → Nat} : ∀ n, (∀ k, k < n → f k = g k) → sumTo f n = sumTo g n := by
  intro n
  induction n with
  | zero => intro _; rfl
  | succ n ih => intro h; rw [sumTo, sumTo, ih fun k hk => h k (by omega), h n (by omega)]
theorem sumTo_dvd (r : Nat) (f : Nat → Nat) : ∀ n, (∀ k, k < n → r ∣ f k) → r ∣ sumTo f n := by
  intro n
  induction n with
  | zero => intro _; exact ⟨0, rfl⟩
  | succ n ih => intro h; exact Nat.dvd_add (ih fun k hk => h k (by omega)) (h n (by omega))
theorem binom (a : Nat) : ∀ n, (a + 1) ^ n = sumTo (fun k => ch n k * a ^ k) (n + 1) := by
  intro n
  induction n with
  | zero => simp [sumTo, ch]
  | succ n ih =>
    rw [sumTo_front, ch_zero]
    have e1 : sumTo (fun k => ch (n + 1) (k + 1) * a ^ (k + 1)) (n + 1) = sumTo (fun k => a * (ch n k * a ^ k) + ch n (k + 1) * a ^ (k + 1)) (n + 1) :=
      sumTo_congr _ fun k _ => by
        rw [show ch (n + 1) (k + 1) = ch n k + ch n (k + 1) from rfl, Nat.add_mul, Nat.pow_succ]
        rw [show ch n k * (a ^ k * a) = a * (ch n k * a ^ k) by rw [← Nat.mul_assoc, Nat.mul_comm]]
    have e2 : sumTo (fun k => ch n k * a ^ k) (n + 1 + 1) = ch n 0 * a ^ 0 + sumTo (fun k => ch n (k + 1) * a ^ (k + 1)) (n + 1) := sumTo_front _ _
    have e3 : sumTo (fun k => ch n k * a ^ k) (n + 1 + 1) = sumTo (fun k => ch n k * a ^ k) (n + 1) := by
      rw [sumTo, ch_over n (n + 1) (by omega), Nat.zero_mul, Nat.add_zero]
    rw [e1, sumTo_add, sumTo_mul, ← ih]
    rw [ch_zero] at e2
    rw [e3, ← ih] at e2
    rw [Nat.pow_succ, Nat.mul_add, Nat.mul_one, Nat.mul_comm _ a]
    omega
theorem fermat_add (r : Nat) (h : IsP r) (a : Nat) : (a + 1) ^ r % r = (a ^ r + 1) % r := by
  obtain ⟨m, rfl⟩ : ∃ m, r = m + 1 := ⟨r - 1, by have := h.1; omega⟩
  rw [binom a (m + 1), sumTo, sumTo_front, ch_self, ch_zero, Nat.pow_zero, Nat.one_mul, Nat.one_mul]
  have hd : (m + 1) ∣ sumTo (fun k => ch (m + 1) (k + 1) * a ^ (k + 1)) m := sumTo_dvd _ _ _ fun k hk => by
    have h1 : (m + 1) ∣ ch (m + 1) (k + 1) * (k + 1) := ⟨ch m k, ch_mul m k⟩
    rcases h.euclid h1 with h2 | h2
    · exact Nat.dvd_trans h2 ⟨_, rfl⟩
    · have := Nat.le_of_dvd (by omega) h2; omega
  obtain ⟨c, hc⟩ := hd
  rw [hc, show 1 + (m + 1) * c + a ^ (m + 1) = a ^ (m + 1) + 1 + (m + 1) * c by omega, Nat.add_mul_mod_self_left]
theorem fermat0 (r : Nat) (h : IsP r) : ∀ a, a ^ r % r = a % r := by
  intro a
  induction a with
  | zero => rw [Nat.zero_pow (by have := h.1; omega)]
  | succ a ih => rw [fermat_add r h a, Nat.add_mod, ih, ← Nat.add_mod]
theorem fermat (r : Nat) (h : IsP r) (a : Nat) (hn : a % r ≠ 0) : a ^ (r - 1) % r = 1 := by
  have h2 := h.1
  have h0 := fermat0 r h a
  obtain ⟨m, rfl⟩ : ∃ m, r = m + 1 := ⟨r - 1, by omega⟩
  rw [Nat.add_sub_cancel]
  have hpos : 0 < a ^ m := Nat.pow_pos (by rcases Nat.eq_zero_or_pos a with e | e; (subst e; simp at hn); exact e)
  have hd : (m + 1) ∣ a * (a ^ m - 1) := by
    rw [Nat.mul_sub, Nat.mul_one, Nat.mul_comm, ← Nat.pow_succ]
    exact (dvd_sub_mod a (a ^ (m + 1)) (m + 1) h0)
  rcases h.euclid hd with h3 | h3
  · exact absurd (Nat.mod_eq_zero_of_dvd h3) hn
  · obtain ⟨c, hc⟩ := h3
    rw [show a ^ m = 1 + (m + 1) * c by omega, Nat.add_mul_mod_self_left, Nat.mod_eq_of_lt (by omega)]
theorem pock_one {n q c a r : Nat} (hq : IsP q) (hc : n - 1 = q * c) (h1 : a ^ (n - 1) % n = 1) (h2 : Nat.gcd (a ^ c % n + (n - 1)) n = 1) (hn : 2 ≤ n) (hr : IsP r) (hd : r ∣ n) : q ∣ r - 1 := by
  have h1r : a ^ (n - 1) % r = 1 % r := by
    rw [← Nat.mod_mod_of_dvd (a ^ (n - 1)) hd, h1]
  have har : a % r ≠ 0 := by
    intro h0
    have h3 : a ^ (n - 1) % r = 0 := by
      obtain ⟨k, hk⟩ : ∃ k, n - 1 = k + 1 := ⟨n - 2, by omega⟩
      rw [hk, Nat.pow_succ, Nat.mul_mod, h0, Nat.mul_zero, Nat.zero_mod]
    have := hr.1
    rw [h3, Nat.mod_eq_of_lt (by omega)] at h1r; omega
  have hf : a ^ (r - 1) % r = 1 % r := by rw [fermat r hr a har, Nat.mod_eq_of_lt (by have := hr.1; omega)]
  apply Classical.byContradiction
  intro hqn
  have hg : Nat.gcd (q * c) (r - 1) ∣ c := by
    have hcop : Nat.Coprime (Nat.gcd (q * c) (r - 1)) q :=
      (show Nat.Coprime (r - 1) q from Nat.Coprime.symm (hq.coprime hqn)).coprime_dvd_left (Nat.gcd_dvd_right _ _)
    exact hcop.dvd_of_dvd_mul_left (Nat.gcd_dvd_left _ _)
  have h4 := pow_one_gcd (a := a) (n := r) (n - 1) (r - 1) h1r hf
  rw [hc] at h4
  obtain ⟨k, hk⟩ := hg
  have h5 : a ^ c % r = 1 % r := by
    obtain ⟨g, hgd⟩ : ∃ g, g = Nat.gcd (q * c) (r - 1) := ⟨_, rfl⟩
    rw [← hgd] at h4 hk
    rw [hk]; exact pow_one_mul h4 k
  have hr1 : r ∣ a ^ c % n + (n - 1) := by
    obtain ⟨e, he⟩ := hd
    have h6 : (a ^ c % n) % r = 1 % r := by rw [Nat.mod_mod_of_dvd _ ⟨e, he⟩]; exact h5
    have h7 : (a ^ c % n + (n - 1)) % r = (1 + (n - 1)) % r := by rw [Nat.add_mod, h6, ← Nat.add_mod]
    rw [show 1 + (n - 1) = n by omega, he, Nat.mul_mod_right] at h7
    rw [← he] at h7
    exact Nat.dvd_of_mod_eq_zero h7
  have h8 := Nat.dvd_gcd hr1 hd
  rw [h2] at h8
  have := Nat.le_of_dvd (by omega) h8
  have := hr.1
  omega
theorem prime_of {n F : Nat} (hn : 2 ≤ n) (hF : n < F * F) (hF2 : 1 ≤ F) (h : ∀ r, IsP r → r ∣ n → F ∣ r - 1) : IsP n := by
  obtain ⟨r, hr, hd, hs⟩ := prime_div n n (Nat.le_refl _) hn
  apply Classical.byContradiction
  intro hnp
  have h3 := hs hnp
  have hle := Nat.le_of_dvd (by have := hr.1; omega) (h r hr hd)
  have : F * F ≤ r * r := Nat.mul_le_mul (by omega) (by omega)
  omega
theorem pock1 {n q c a : Nat} (hq : IsP q) (hn : 2 ≤ n) (hc : n - 1 = q * c) (h1 : a ^ (n - 1) % n = 1) (h2 : Nat.gcd (a ^ c % n + (n - 1)) n = 1) (hF : n < q * q) : IsP n :=
  prime_of hn hF (by have := hq.1; omega) fun r hr hd => pock_one hq hc h1 h2 hn hr hd
theorem pock2 {n q c s d a : Nat} (hq : IsP q) (hs : IsP s) (hqs : Nat.gcd q s = 1) (hn : 2 ≤ n) (hc : n - 1 = q * c) (hd : n - 1 = s * d) (h1 : a ^ (n - 1) % n = 1)
    (h2 : Nat.gcd (a ^ c % n + (n - 1)) n = 1) (h3 : Nat.gcd (a ^ d % n + (n - 1)) n = 1) (hF : n < (q * s) * (q * s)) : IsP n :=
  prime_of hn hF (by have := Nat.mul_le_mul hq.1 hs.1; omega) fun r hr hd' =>
    Nat.Coprime.mul_dvd_of_dvd_of_dvd hqs (pock_one hq hc h1 h2 hn hr hd') (pock_one hs hd h1 h3 hn hr hd')
def pmG (n a : Nat) : Nat → Nat → Nat
  | 0, _ => 1 % n
  | f + 1, e => (if e % 2 = 1 then a else 1) * (pmG n a f (e / 2) * pmG n a f (e / 2) % n) % n
theorem pmG_eq (n a : Nat) : ∀ f e, e < 2 ^ f → pmG n a f e = a ^ e % n := by
  intro f
  induction f with
  | zero => intro e h; obtain rfl : e = 0 := by simp at h; exact h
            rfl
  | succ f ih =>
    intro e h
    have h2 : e / 2 < 2 ^ f := by rw [Nat.pow_succ] at h; omega
    rw [pmG, ih _ h2]
    have e1 : a ^ e = (if e % 2 = 1 then a else 1) * (a ^ (e / 2) * a ^ (e / 2)) := by
      rw [← Nat.pow_add]
      by_cases h1 : e % 2 = 1
      · rw [if_pos h1, Nat.mul_comm, ← Nat.pow_succ]; congr 1; omega
      · rw [if_neg h1, Nat.one_mul]; congr 1; omega
    rw [e1, Nat.mul_mod _ ((a ^ (e / 2) % n) * (a ^ (e / 2) % n) % n), Nat.mod_mod, ← Nat.mul_mod (a ^ (e / 2)), ← Nat.mul_mod]
theorem pockF1 {n q c a : Nat} (f : Nat) (hq : IsP q) (hn : 2 ≤ n) (hc : n - 1 = q * c) (hl : n - 1 < 2 ^ f) (hlc : c < 2 ^ f) (h1 : pmG n a f (n - 1) = 1) (h2 : Nat.gcd (pmG n a f c + (n - 1)) n = 1) (hF : n < q * q) : IsP n := by
  rw [pmG_eq _ _ _ _ hl] at h1
  rw [pmG_eq _ _ _ _ hlc] at h2
  exact pock1 hq hn hc h1 h2 hF
theorem pockF2 {n q c s d a : Nat} (f : Nat) (hq : IsP q) (hs : IsP s) (hqs : Nat.gcd q s = 1) (hn : 2 ≤ n) (hc : n - 1 = q * c) (hd : n - 1 = s * d) (hl : n - 1 < 2 ^ f) (hlc : c < 2 ^ f) (hld : d < 2 ^ f)
    (h1 : pmG n a f (n - 1) = 1) (h2 : Nat.gcd (pmG n a f c + (n - 1)) n = 1) (h3 : Nat.gcd (pmG n a f d + (n - 1)) n = 1) (hF : n < (q * s) * (q * s)) : IsP n := by
  rw [pmG_eq _ _ _ _ hl] at h1
  rw [pmG_eq _ _ _ _ hlc] at h2
  rw [pmG_eq _ _ _ _ hld] at h3
  exact pock2 hq hs hqs hn hc hd h1 h2 h3 hF
theorem ip_47 : IsP 47 := prime_trial 47 7 (by decide) (by decide) (by decide +kernel)
theorem ip_353 : IsP 353 := prime_trial 353 19 (by decide) (by decide) (by decide +kernel)
theorem ip_75707 : IsP 75707 := prime_trial 75707 276 (by decide) (by decide) (by decide +kernel)
theorem ip_C : IsP 8574133 := prime_trial 8574133 2929 (by decide) (by decide) (by decide +kernel)
theorem ip_B : IsP 1919519569386763 :=
  pockF2 (q := 8574133) (c := 223873314) (s := 47) (d := 40840841901846) (a := 2) 64 ip_C ip_47 (by decide +kernel) (by decide +kernel) (by decide +kernel) (by decide +kernel) (by decide +kernel) (by decide +kernel) (by decide +kernel) (by decide +kernel) (by decide +kernel) (by decide +kernel) (by decide +kernel)
theorem ip_A : IsP 75445702479781427272750846543864801 :=
  pockF2 (q := 1919519569386763) (c := 39304471641247389600) (s := 75707) (d := 996548568557483816196003626400) (a := 2) 128 ip_B ip_75707 (by decide +kernel) (by decide +kernel) (by decide +kernel) (by decide +kernel) (by decide +kernel) (by decide +kernel) (by decide +kernel) (by decide +kernel) (by decide +kernel) (by decide +kernel) (by decide +kernel)
theorem ip_q1 : IsP 74058212732561358302231226437062788676166966415465897661863160754340907 :=
  pockF2 (q := 75445702479781427272750846543864801) (c := 981609426360740691344999861639072106) (s := 353) (d := 209796636636151156663544550813209033076960244803019540118592523383402) (a := 2) 256 ip_A ip_353 (by decide +kernel) (by decide +kernel) (by decide +kernel) (by decide +kernel) (by decide +kernel) (by decide +kernel) (by decide +kernel) (by decide +kernel) (by decide +kernel) (by decide +kernel) (by decide +kernel)
theorem ip_p : IsP 57896044618658097711785492504343953926634992332820282019728792003956564819949 :=
  pockF1 (q := 74058212732561358302231226437062788676166966415465897661863160754340907) (c := 781764) (a := 2) 256 ip_q1 (by decide +kernel) (by decide +kernel) (by decide +kernel) (by decide +kernel) (by decide +kernel) (by decide +kernel) (by decide +kernel)
end Go.Proofs.Ytejnnghfelpioaa
namespace Go.Proofs.Ytejnnghfelpioaa
open Go.RowKit
instance pN_ne : NeZero pN := ⟨by decide +kernel⟩
theorem pN_isP : IsP pN := ip_p
abbrev FP := Fin pN
def nF (n : Nat) : FP := ⟨n % pN, Nat.mod_lt _ pN_pos⟩
theorem nF_val (n : Nat) : (nF n).val = n % pN := rfl
theorem nF_eq {a b : Nat} (h : a % pN = b % pN) : nF a = nF b := Fin.ext h
theorem nF_back (z : FP) : nF z.val = z := Fin.ext (Nat.mod_eq_of_lt z.isLt)
theorem nF_mul (a b : Nat) : nF (a * b) = nF a * nF b := Fin.ext (by rw [Fin.val_mul, nF_val, nF_val, nF_val, ← Nat.mul_mod])
theorem nF_add (a b : Nat) : nF (a + b) = nF a + nF b := Fin.ext (by rw [Fin.val_add, nF_val, nF_val, nF_val, ← Nat.add_mod])
theorem nF_one : nF 1 = 1 := Fin.ext (by decide +kernel)
theorem nF_zero : nF 0 = 0 := Fin.ext (by decide +kernel)
def iF (z : FP) : FP := nF (powP z.val (pN - 2))
theorem iF_nF (a : Nat) : iF (nF a) = nF (powP a (pN - 2)) := by
  unfold iF powP; rw [nF_val, ← Nat.pow_mod]
theorem mul_iF (a : FP) (h : a ≠ 0) : a * iF a = 1 := by
  rw [← nF_one]
  unfold iF powP
  refine Fin.ext ?_
  rw [Fin.val_mul, nF_val, nF_val, Nat.mod_mod, Nat.mul_mod, Nat.mod_mod, ← Nat.mul_mod, Nat.mul_comm, ← Nat.pow_succ, show (pN - 2).succ = pN - 1 by decide +kernel]
  rw [fermat pN pN_isP a.val ?_, Nat.mod_eq_of_lt (show 1 < pN by decide +kernel)]
  intro h0
  rw [Nat.mod_eq_of_lt a.isLt] at h0
  exact h (Fin.ext (by rw [h0]; rfl))
theorem F_zero_of {a b : FP} (h : a * b = 0) (ha : a ≠ 0) : b = 0 := by
  have h1 := mul_iF a ha
  have : b = iF a * (a * b) := by grind
  rw [this, h]; grind
theorem F_cancel {k a b : FP} (hk : k ≠ 0) (h : k * a = k * b) : a = b := by
  have h1 := mul_iF k hk
  have : a = iF k * (k * a) := by grind
  rw [this, h]; grind
def fv (f : F5) : FP := nF (val5 f)
theorem fv_mul (f g : F5) : fv (mul5 f g) = fv f * fv g := by
  unfold fv; rw [← nF_mul]; exact nF_eq (mul5_mod f g)
theorem fv_add (f g : F5) : fv (add5 f g) = fv f + fv g := by
  unfold fv; rw [← nF_add]; exact nF_eq (add5_mod f g)
theorem fv_sub (f g : F5) (hg : T5 g) : fv (sub5 f g) = fv f - fv g := by
  have h : nF (val5 (sub5 f g)) + nF (val5 g) = nF (val5 f) := by rw [← nF_add]; exact nF_eq (sub5_mod f g hg)
  unfold fv; grind
theorem fv_inv (f : F5) : fv (inv5 f) = iF (fv f) := by
  unfold fv; rw [iF_nF]
  refine nF_eq ?_
  rw [inv5_val]; unfold powP; rw [Nat.mod_mod]
theorem fv_of (x : Nat) : fv (fOf x) = nF x := by unfold fv; rw [fOf_val]
theorem fv_one : fv one5 = 1 := nF_one
theorem fv_zero : fv zero5 = 0 := nF_zero
def iI (v : Int) : FP := nF (v % pI).toNat
def gv (g : G16) : FP := iI (val g.l)
structure QF where
  x : FP
  y : FP
  z : FP
  t : FP
theorem QF.ext4 {p q : QF} (h1 : p.x = q.x) (h2 : p.y = q.y) (h3 : p.z = q.z) (h4 : p.t = q.t) : p = q := by
  cases p; cases q; simp only [QF.mk.injEq]; exact ⟨h1, h2, h3, h4⟩
def dF : FP := nF dN
def qfrom (e f g h : FP) : QF := ⟨e * f, g * h, f * g, e * h⟩
def qsum (p q : QF) : QF :=
  qfrom ((p.y + p.x) * (q.y + q.x) - (p.y - p.x) * (q.y - q.x)) (p.z * q.z + p.z * q.z - (p.t * q.t * dF + p.t * q.t * dF)) (p.z * q.z + p.z * q.z + (p.t * q.t * dF + p.t * q.t * dF)) ((p.y + p.x) * (q.y + q.x) + (p.y - p.x) * (q.y - q.x))
def qtwice (p : QF) : QF :=
  qfrom (p.x * p.x + p.y * p.y - (p.x + p.y) * (p.x + p.y)) (p.z * p.z + p.z * p.z + (p.x * p.x - p.y * p.y)) (p.x * p.x - p.y * p.y) (p.x * p.x + p.y * p.y)
def qopen (p : P2) : QF := ⟨nF p.x, nF p.y, 1, nF p.x * nF p.y⟩
def qnone : QF := ⟨0, 1, 1, 0⟩
def qclose (q : QF) : P2 := ⟨(q.x * iF q.z).val, (q.y * iF q.z).val⟩
def qW (p : W4) : QF := ⟨fv p.x, fv p.y, fv p.z, fv p.t⟩
theorem d25_fv : fv d25 = dF + dF := by
  unfold d25 dF
  rw [fv_of, ← nF_add, Nat.mod_eq_of_lt (show dN + dN < 2 ^ 256 by decide +kernel)]
theorem qW_plus (p q : W4) (hp : TW p) (hq : TW q) : qW (plusW p q) = qsum (qW p) (qW q) := by
  have a := mul5_t _ _ (sub5_t _ _ hp.y hp.x) (sub5_t _ _ hq.y hq.x)
  have c := mul5_t _ _ (mul5_t _ _ hp.t hq.t) d25_t
  unfold plusW fromW qW qsum qfrom
  simp only [fv_mul, fv_add, fv_sub _ _ hp.x, fv_sub _ _ hq.x, fv_sub _ _ a, fv_sub _ _ c, d25_fv]
  refine QF.ext4 ?_ ?_ ?_ ?_ <;> simp only <;> grind
theorem qW_twice (p : W4) (hp : TW p) : qW (twiceW p) = qtwice (qW p) := by
  have s := mul5_t _ _ (add5_t _ _ hp.x hp.y) (add5_t _ _ hp.x hp.y)
  have y2 := mul5_t _ _ hp.y hp.y
  unfold twiceW fromW qW qtwice qfrom
  simp only [fv_mul, fv_add, fv_sub _ _ s, fv_sub _ _ y2]
theorem qW_widen (p : P2) : qW (widenW p) = qopen p := by
  unfold widenW qW qopen
  simp only [fv_mul, fv_of, fv_one]
theorem qW_none : qW noneW = qnone := by
  unfold noneW qW qnone
  simp only [fv_one, fv_zero]
theorem qW_point (p : W4) : pointW p = qclose (qW p) := by
  unfold pointW qclose qW
  simp only [← fv_inv, ← fv_mul]
  rfl
def qmul (n : Nat) (p : QF) : Nat → QF
  | 0 => qnone
  | m + 1 => if n / 2 ^ (255 - m) % 2 = 1 then qsum (qtwice (qmul n p m)) p else qtwice (qmul n p m)
theorem qW_fold (n : Nat) (p : W4) (hp : TW p) : ∀ m, qW ((List.range m).foldl (stepW n p) noneW) = qmul n (qW p) m
  | 0 => qW_none
  | m + 1 => by
    have ih := qW_fold n p hp m
    have hb := foldW_t n p hp (List.range m) _ noneW_t
    rw [List.range_succ, List.foldl_append, qmul]
    show qW (stepW n p _ m) = _
    obtain ⟨o, ho⟩ : ∃ o, o = List.foldl (stepW n p) noneW (List.range m) := ⟨_, rfl⟩
    rw [← ho] at ih hb ⊢
    unfold stepW dbit
    by_cases h : n / 2 ^ (255 - m) % 2 = 1
    · rw [if_pos h, if_pos (by rw [h]; rfl), qW_plus _ _ (twiceW_t _ hb) hp, qW_twice _ hb, ih]
    · rw [if_neg h, if_neg (by rw [decide_eq_false h]; decide), qW_twice _ hb, ih]
def onC (x y : FP) : Prop := y * y - x * x = 1 + dF * (x * x * (y * y))
theorem sub_val (a b : Nat) : subP a b = (nF a - nF b).val := by
  have h : nF (subP a b) = nF a - nF b := by
    have : nF (subP a b) + nF b = nF a := by
      rw [← nF_add]
      refine nF_eq ?_
      unfold subP
      rw [Nat.add_mod, Nat.mod_mod, ← Nat.add_mod]
      have h1 := Nat.mod_lt b pN_pos
      have h2 := Nat.div_add_mod b pN
      rw [show a + (pN - b % pN) + b = a + pN * (b / pN + 1) by rw [Nat.mul_add, Nat.mul_one]; omega, Nat.add_mul_mod_self_left]
    grind
  rw [← h, nF_val]
  unfold subP; rw [Nat.mod_mod]
theorem onL_val (p : P2) : onL p = (nF p.y * nF p.y - nF p.x * nF p.x).val := by
  unfold onL
  rw [sub_val, ← nF_mul, ← nF_mul]
  rw [nF_eq (show p.y * p.y % pN % pN = p.y * p.y % pN from Nat.mod_mod _ _), nF_eq (show p.x * p.x % pN % pN = p.x * p.x % pN from Nat.mod_mod _ _)]
theorem onR_val (p : P2) : onR p = (1 + dF * (nF p.x * nF p.x * (nF p.y * nF p.y))).val := by
  unfold onR
  rw [← nF_one]
  unfold dF
  rw [← nF_mul, ← nF_mul, ← nF_mul, ← nF_mul, ← nF_add, nF_val]
  simp [Nat.add_mod, Nat.mul_mod]
theorem onB_onC {p : P2} (h : onB p = true) : p.x < pN ∧ p.y < pN ∧ onC (nF p.x) (nF p.y) := by
  unfold onB at h
  simp only [Bool.and_eq_true, decide_eq_true_eq] at h
  refine ⟨h.1, h.2.1, Fin.ext ?_⟩
  rw [← onL_val, ← onR_val]; exact h.2.2
theorem onB_of {p : P2} (hx : p.x < pN) (hy : p.y < pN) (h : onC (nF p.x) (nF p.y)) : onB p = true := by
  unfold onB
  simp only [Bool.and_eq_true, decide_eq_true_eq]
  refine ⟨hx, hy, ?_⟩
  rw [onL_val, onR_val]; exact congrArg Fin.val h
end Go.Proofs.Ytejnnghfelpioaa
namespace Go.Proofs.Ytejnnghfelpioaa
open Go.RowKit
def qboth (x y : Nat) (p q s : QF) : Nat → QF
  | 0 => qnone
  | m + 1 => if x / 2 ^ (255 - m) % 2 = 1 then (if y / 2 ^ (255 - m) % 2 = 1 then qsum (qtwice (qboth x y p q s m)) s else qsum (qtwice (qboth x y p q s m)) p) else (if y / 2 ^ (255 - m) % 2 = 1 then qsum (qtwice (qboth x y p q s m)) q else qtwice (qboth x y p q s m))
theorem qW_bfold (x y : Nat) (p q s : W4) (hp : TW p) (hq : TW q) (hs : TW s) : ∀ m, qW (bfold x y p q s (List.range m)).1 = qboth x y (qW p) (qW q) (qW s) m
  | 0 => qW_none
  | m + 1 => by
    have ih := qW_bfold x y p q s hp hq hs m
    have hb := bfold_t x y p q s hp hq hs (List.range m)
    have hl := bfold_len x y p q s (List.range m)
    rw [List.range_succ, bfold_snoc, qboth]
    rw [List.length_range] at hl
    rw [hl]
    obtain ⟨o, ho⟩ : ∃ o, o = (bfold x y p q s (List.range m)).1 := ⟨_, rfl⟩
    rw [← ho] at ih hb ⊢
    unfold bstep dbit
    by_cases h1 : x / 2 ^ (255 - m) % 2 = 1
    · rw [if_pos h1, if_pos (by rw [h1]; rfl)]
      by_cases h2 : y / 2 ^ (255 - m) % 2 = 1
      · rw [if_pos h2, if_pos (by rw [h2]; rfl), qW_plus _ _ (twiceW_t _ hb) hs, qW_twice _ hb, ih]
      · rw [if_neg h2, if_neg (by rw [decide_eq_false h2]; decide), qW_plus _ _ (twiceW_t _ hb) hp, qW_twice _ hb, ih]
    · rw [if_neg h1, if_neg (by rw [decide_eq_false h1]; decide)]
      by_cases h2 : y / 2 ^ (255 - m) % 2 = 1
      · rw [if_pos h2, if_pos (by rw [h2]; rfl), qW_plus _ _ (twiceW_t _ hb) hq, qW_twice _ hb, ih]
      · rw [if_neg h2, if_neg (by rw [decide_eq_false h2]; decide), qW_twice _ hb, ih]
theorem qW_both (x y : Nat) (p q : W4) (hp : TW p) (hq : TW q) : qW (bothW x p y q) = qboth x y (qW p) (qW q) (qsum (qW p) (qW q)) 256 := by
  unfold bothW
  rw [qW_bfold x y p q _ hp hq (plusW_t _ _ hp hq), qW_plus _ _ hp hq]
structure NQ where
  x : Nat
  y : Nat
  z : Nat
  t : Nat
def toQ (p : NQ) : QF := ⟨nF p.x, nF p.y, nF p.z, nF p.t⟩
theorem nF_mod (a : Nat) : nF (a % pN) = nF a := nF_eq (Nat.mod_mod _ _)
theorem nF_sub (a b : Nat) : nF (subP a b) = nF a - nF b := by
  refine Fin.ext ?_
  rw [← sub_val, nF_val]
  unfold subP; rw [Nat.mod_mod]
def nm (a b : Nat) : Nat := a * b % pN
theorem nF_nm (a b : Nat) : nF (nm a b) = nF a * nF b := by unfold nm; rw [nF_mod, nF_mul]
def nfrom (e f g h : Nat) : NQ := ⟨nm e f, nm g h, nm f g, nm e h⟩
def nsum (p q : NQ) : NQ :=
  nfrom (subP (nm (p.y + p.x) (q.y + q.x)) (nm (subP p.y p.x) (subP q.y q.x))) (subP (nm p.z q.z + nm p.z q.z) (nm (nm p.t q.t) dN + nm (nm p.t q.t) dN)) (nm p.z q.z + nm p.z q.z + (nm (nm p.t q.t) dN + nm (nm p.t q.t) dN)) (nm (p.y + p.x) (q.y + q.x) + nm (subP p.y p.x) (subP q.y q.x))
def ntwice (p : NQ) : NQ :=
  nfrom (subP (nm p.x p.x + nm p.y p.y) (nm (p.x + p.y) (p.x + p.y))) (nm p.z p.z + nm p.z p.z + subP (nm p.x p.x) (nm p.y p.y)) (subP (nm p.x p.x) (nm p.y p.y)) (nm p.x p.x + nm p.y p.y)
theorem toQ_sum (p q : NQ) : toQ (nsum p q) = qsum (toQ p) (toQ q) := by
  unfold nsum nfrom toQ qsum qfrom dF
  simp only [nF_nm, nF_sub, nF_add]
theorem toQ_twice (p : NQ) : toQ (ntwice p) = qtwice (toQ p) := by
  unfold ntwice nfrom toQ qtwice qfrom
  simp only [nF_nm, nF_sub, nF_add]
def nnone : NQ := ⟨0, 1, 1, 0⟩
theorem toQ_none : toQ nnone = qnone := by unfold toQ nnone qnone; rw [nF_zero, nF_one]
def nopen (p : P2) : NQ := ⟨p.x, p.y, 1, nm p.x p.y⟩
theorem toQ_open (p : P2) : toQ (nopen p) = qopen p := by unfold toQ nopen qopen; rw [nF_nm, nF_one]
def nmul (n : Nat) (p : NQ) : Nat → NQ
  | 0 => nnone
  | m + 1 => if n / 2 ^ (255 - m) % 2 = 1 then nsum (ntwice (nmul n p m)) p else ntwice (nmul n p m)
theorem toQ_mul (n : Nat) (p : NQ) : ∀ m, toQ (nmul n p m) = qmul n (toQ p) m
  | 0 => toQ_none
  | m + 1 => by
    have ih := toQ_mul n p m
    rw [nmul, qmul]
    split
    · rw [toQ_sum, toQ_twice, ih]
    · rw [toQ_twice, ih]
def nboth (x y : Nat) (p q s : NQ) : Nat → NQ
  | 0 => nnone
  | m + 1 => if x / 2 ^ (255 - m) % 2 = 1 then (if y / 2 ^ (255 - m) % 2 = 1 then nsum (ntwice (nboth x y p q s m)) s else nsum (ntwice (nboth x y p q s m)) p) else (if y / 2 ^ (255 - m) % 2 = 1 then nsum (ntwice (nboth x y p q s m)) q else ntwice (nboth x y p q s m))
theorem toQ_both (x y : Nat) (p q s : NQ) : ∀ m, toQ (nboth x y p q s m) = qboth x y (toQ p) (toQ q) (toQ s) m
  | 0 => toQ_none
  | m + 1 => by
    have ih := toQ_both x y p q s m
    rw [nboth, qboth]
    split
    · split
      · rw [toQ_sum, toQ_twice, ih]
      · rw [toQ_sum, toQ_twice, ih]
    · split
      · rw [toQ_sum, toQ_twice, ih]
      · rw [toQ_twice, ih]
theorem iF_pm (a : Nat) : iF (nF a) = nF (pmF a 256 (pN - 2)) := by rw [iF_nF, pow2 a _ (by decide +kernel)]
theorem qclose_toQ (p : NQ) : qclose (toQ p) = ⟨nm p.x (pmF p.z 256 (pN - 2)), nm p.y (pmF p.z 256 (pN - 2))⟩ := by
  unfold qclose toQ
  simp only
  rw [iF_pm, ← nF_mul, ← nF_mul]
  rfl
def nmulP (n : Nat) (p : P2) : P2 := let q := nmul n (nopen p) 256; ⟨nm q.x (pmF q.z 256 (pN - 2)), nm q.y (pmF q.z 256 (pN - 2))⟩
theorem mulP_eval (n : Nat) (p : P2) (hp : LtP p) (ho : onB p = true) : mulP n p = nmulP n p := by
  unfold mulP mW nmulP
  rw [if_pos ho, qW_point, qW_fold n _ (widenW_t p hp), qW_widen, ← toQ_open, ← toQ_mul, qclose_toQ]
end Go.Proofs.Ytejnnghfelpioaa
namespace Go.Proofs.Ytejnnghfelpioaa
open Go.RowKit
theorem rot_any (x : BitVec 64) (k : Int) (w : World) :
    Calls Try.prog 88 #[.int .u64 (iv x), .int .i64 k] w fun e w' => e = .returned (.int .u64 (iv (x.rotateLeft (k % 64).toNat))) ∧ Below w.heap.size w w' := by
  have hm := mask63 k
  obtain ⟨n, hn⟩ : ∃ n : Nat, (n : Int) = k % 64 := ⟨(k % 64).toNat, by omega⟩
  rw [← hn] at hm ⊢
  have hn64 : n < 64 := by omega
  clear hn
  have h0 := iv_nonneg x
  have HR := hid (rot_spell x n hn64)
  rw [Int.toNat_natCast]
  go_enter Try.func88, Try.ntmps88
  go_wp2
  go_ret
  exact ⟨ret_int HR.out, Below.refl _ _⟩
end Go.Proofs.Ytejnnghfelpioaa
namespace Go.Proofs.Ytejnnghfelpioaa
open Go.RowKit
def shaK : List (BitVec 64) := [0x428a2f98d728ae22, 0x7137449123ef65cd, 0xb5c0fbcfec4d3b2f, 0xe9b5dba58189dbbc, 0x3956c25bf348b538, 0x59f111f1b605d019, 0x923f82a4af194f9b, 0xab1c5ed5da6d8118, 0xd807aa98a3030242, 0x12835b0145706fbe, 0x243185be4ee4b28c, 0x550c7dc3d5ffb4e2, 0x72be5d74f27b896f, 0x80deb1fe3b1696b1, 0x9bdc06a725c71235, 0xc19bf174cf692694, 0xe49b69c19ef14ad2, 0xefbe4786384f25e3, 0x0fc19dc68b8cd5b5, 0x240ca1cc77ac9c65, 0x2de92c6f592b0275, 0x4a7484aa6ea6e483, 0x5cb0a9dcbd41fbd4, 0x76f988da831153b5, 0x983e5152ee66dfab, 0xa831c66d2db43210, 0xb00327c898fb213f, 0xbf597fc7beef0ee4, 0xc6e00bf33da88fc2, 0xd5a79147930aa725, 0x06ca6351e003826f, 0x142929670a0e6e70, 0x27b70a8546d22ffc, 0x2e1b21385c26c926, 0x4d2c6dfc5ac42aed, 0x53380d139d95b3df, 0x650a73548baf63de, 0x766a0abb3c77b2a8, 0x81c2c92e47edaee6, 0x92722c851482353b, 0xa2bfe8a14cf10364, 0xa81a664bbc423001, 0xc24b8b70d0f89791, 0xc76c51a30654be30, 0xd192e819d6ef5218, 0xd69906245565a910, 0xf40e35855771202a, 0x106aa07032bbd1b8, 0x19a4c116b8d2d0c8, 0x1e376c085141ab53, 0x2748774cdf8eeb99, 0x34b0bcb5e19b48a8, 0x391c0cb3c5c95a63, 0x4ed8aa4ae3418acb, 0x5b9cca4f7763e373, 0x682e6ff3d6b2b8a3, 0x748f82ee5defb2fc, 0x78a5636f43172f60, 0x84c87814a1f0ab72, 0x8cc702081a6439ec, 0x90befffa23631e28, 0xa4506cebde82bde9, 0xbef9a3f7b2c67915, 0xc67178f2e372532b, 0xca273eceea26619c, 0xd186b8c721c0c207, 0xeada7dd6cde0eb1e, 0xf57d4f7fee6ed178, 0x06f067aa72176fba, 0x0a637dc5a2c898a6, 0x113f9804bef90dae, 0x1b710b35131c471b, 0x28db77f523047d84, 0x32caab7b40c72493, 0x3c9ebe0a15c9bebc, 0x431d67c49c100d4c, 0x4cc5d4becb3e42b6, 0x597f299cfc657e2a, 0x5fcb6fab3ad6faec, 0x6c44198c4a475817]
def shaH : List (BitVec 64) := [0x6a09e667f3bcc908, 0xbb67ae8584caa73b, 0x3c6ef372fe94f82b, 0xa54ff53a5f1d36f1, 0x510e527fade682d1, 0x9b05688c2b3e6c1f, 0x1f83d9abfb41bd6b, 0x5be0cd19137e2179]
def rr (x : BitVec 64) (n : Nat) : BitVec 64 := x.rotateLeft (64 - n)
def sg0 (a : BitVec 64) : BitVec 64 := rr a 1 ^^^ rr a 8 ^^^ (a >>> 7)
def sg1 (b : BitVec 64) : BitVec 64 := rr b 19 ^^^ rr b 61 ^^^ (b >>> 6)
def bs1 (e : BitVec 64) : BitVec 64 := rr e 14 ^^^ rr e 18 ^^^ rr e 41
def bs0 (a : BitVec 64) : BitVec 64 := rr a 28 ^^^ rr a 34 ^^^ rr a 39
def chs (e f g : BitVec 64) : BitVec 64 := g ^^^ (e &&& (f ^^^ g))
def mjs (a b c : BitVec 64) : BitVec 64 := (a &&& b) ||| (c &&& (a ||| b))
def stepV (v : List (BitVec 64)) (k x : BitVec 64) : List (BitVec 64) :=
  let one := nb v 7 + bs1 (nb v 4) + chs (nb v 4) (nb v 5) (nb v 6) + k + x
  let two := bs0 (nb v 0) + mjs (nb v 0) (nb v 1) (nb v 2)
  [one + two, nb v 0, nb v 1, nb v 2, nb v 3 + one, nb v 4, nb v 5, nb v 6]
def w16 (n : Nat) (ys : List (BitVec 8)) : Nat → List (BitVec 64)
  | 0 => List.replicate n 0
  | i + 1 => (w16 n ys i).set (i / 8) (((nb (w16 n ys i) (i / 8)) <<< 8) ||| (ny ys i).setWidth 64)
theorem w16_len (n : Nat) (ys : List (BitVec 8)) (i : Nat) : (w16 n ys i).length = n := by induction i <;> simp [w16, *]
def wf (b : List (BitVec 64)) (t : Nat) : BitVec 64 :=
  if h : t < 16 then nb b t else sg1 (wf b (t - 2)) + wf b (t - 7) + sg0 (wf b (t - 15)) + wf b (t - 16)
  termination_by t
  decreasing_by all_goals omega
theorem wf_lt (b : List (BitVec 64)) (t : Nat) (h : t < 16) : wf b t = nb b t := by rw [wf, dif_pos h]
theorem wf_ge (b : List (BitVec 64)) (t : Nat) (h : 16 ≤ t) : wf b t = sg1 (wf b (t - 2)) + wf b (t - 7) + sg0 (wf b (t - 15)) + wf b (t - 16) := by rw [wf, dif_neg (by omega)]
def vGo (b s : List (BitVec 64)) : Nat → List (BitVec 64)
  | 0 => s
  | t + 1 => stepV (vGo b s t) (nb shaK t) (wf b t)
theorem vGo_len (b s : List (BitVec 64)) (hs : s.length = 8) (t : Nat) : (vGo b s t).length = 8 := by
  cases t with
  | zero => exact hs
  | succ t => rfl
def addGo (v s : List (BitVec 64)) : Nat → List (BitVec 64)
  | 0 => s
  | i + 1 => (addGo v s i).set i (nb (addGo v s i) i + nb v i)
theorem addGo_len (v s : List (BitVec 64)) (i : Nat) : (addGo v s i).length = s.length := by induction i <;> simp [addGo, *]
def blockL (s : List (BitVec 64)) (ys : List (BitVec 8)) : List (BitVec 64) := addGo (vGo (w16 16 ys 128) s 80) s 8
theorem blockL_len (s : List (BitVec 64)) (ys : List (BitVec 8)) : (blockL s ys).length = s.length := addGo_len _ _ _
def cw (b : List (BitVec 64)) : Nat → List (BitVec 64)
  | 0 => b
  | t + 1 => if 16 ≤ t then (cw b t).set (t % 16) (nb (cw b t) (t % 16) + (nb (cw b t) ((t + 9) % 16) + sg0 (nb (cw b t) ((t + 1) % 16)) + sg1 (nb (cw b t) ((t + 14) % 16)))) else cw b t
theorem cw_len (b : List (BitVec 64)) (t : Nat) : (cw b t).length = b.length := by
  induction t with
  | zero => rfl
  | succ t ih => unfold cw; split <;> simp [ih]
theorem nb_set (xs : List (BitVec 64)) (i j : Nat) (x : BitVec 64) (h : i < xs.length) : nb (xs.set i x) j = if i = j then x else nb xs j := by
  unfold nb
  simp only [List.getD_eq_getElem?_getD, List.getElem?_set]
  split <;> simp_all
theorem cw_early (b : List (BitVec 64)) (t : Nat) (h : t ≤ 16) : cw b t = b := by
  induction t with
  | zero => rfl
  | succ t ih => unfold cw; rw [if_neg (by omega)]; exact ih (by omega)
theorem cw_spec (b : List (BitVec 64)) (hb : b.length = 16) (t : Nat) : ∀ s, s < max t 16 → max t 16 ≤ s + 16 → nb (cw b t) (s % 16) = wf b s := by
  induction t with
  | zero =>
    intro s h1 h2
    have : s < 16 := by omega
    rw [wf_lt b s this, Nat.mod_eq_of_lt this]; rfl
  | succ t ih =>
    intro s h1 h2
    unfold cw
    split
    · rename_i h16
      rw [nb_set _ _ _ _ (by rw [cw_len, hb]; omega)]
      have e1 := ih (t - 16) (by omega) (by omega)
      have e2 := ih (t - 7) (by omega) (by omega)
      have e3 := ih (t - 15) (by omega) (by omega)
      have e4 := ih (t - 2) (by omega) (by omega)
      rw [show (t - 16) % 16 = t % 16 from by omega] at e1
      rw [show (t - 7) % 16 = (t + 9) % 16 from by omega] at e2
      rw [show (t - 15) % 16 = (t + 1) % 16 from by omega] at e3
      rw [show (t - 2) % 16 = (t + 14) % 16 from by omega] at e4
      rw [e1, e2, e3, e4]
      by_cases hst : s = t
      · subst hst
        rw [if_pos rfl, wf_ge b s h16]
        ac_rfl
      · rw [if_neg (by omega)]
        exact ih s (by omega) (by omega)
    · exact ih s (by omega) (by omega)
theorem cw_word (b : List (BitVec 64)) (hb : b.length = 16) (t : Nat) : nb (cw b (t + 1)) (t % 16) = wf b t := by
  by_cases h : t < 16
  · rw [cw_early b (t + 1) (by omega), wf_lt b t h, Nat.mod_eq_of_lt h]
  · exact cw_spec b hb (t + 1) t (by omega) (by omega)
def w80 (b : List (BitVec 64)) : Nat → List (BitVec 64)
  | 0 => b
  | t + 1 => (w80 b t).set (16 + t) (sg1 (nb (w80 b t) (16 + t - 2)) + nb (w80 b t) (16 + t - 7) + sg0 (nb (w80 b t) (16 + t - 15)) + nb (w80 b t) (16 + t - 16))
theorem w80_len (b : List (BitVec 64)) (t : Nat) : (w80 b t).length = b.length := by induction t <;> simp [w80, *]
theorem w80_spec (b c : List (BitVec 64)) (hb : b.length = 80) (h : ∀ j, j < 16 → nb b j = nb c j) (t : Nat) (ht : t ≤ 64) : ∀ s, s < 16 + t → nb (w80 b t) s = wf c s := by
  induction t with
  | zero => intro s hs; rw [wf_lt c s (by omega)]; exact h s (by omega)
  | succ t ih =>
    intro s hs
    have ih := ih (by omega)
    unfold w80
    rw [nb_set _ _ _ _ (by rw [w80_len, hb]; omega)]
    by_cases hst : s = 16 + t
    · subst hst
      rw [if_pos rfl, ih _ (by omega), ih _ (by omega), ih _ (by omega), ih _ (by omega), wf_ge c (16 + t) (by omega)]
    · rw [if_neg (by omega)]
      exact ih s (by omega)
theorem nb_zero (n j : Nat) : nb (List.replicate n 0) j = 0 := by
  unfold nb
  rw [List.getD_eq_getElem?_getD, List.getElem?_replicate]
  split <;> rfl
theorem w16_more (ys : List (BitVec 8)) (i : Nat) (hi : i ≤ 128) : ∀ j, j < 16 → nb (w16 80 ys i) j = nb (w16 16 ys i) j := by
  induction i with
  | zero =>
    intro j hj
    show nb (List.replicate 80 0) j = nb (List.replicate 16 0) j
    rw [nb_zero, nb_zero]
  | succ i ih =>
    intro j hj
    unfold w16
    rw [nb_set _ _ _ _ (by rw [w16_len]; omega), nb_set _ _ _ _ (by rw [w16_len]; omega), ih (by omega) _ (by omega)]
    split
    · rfl
    · exact ih (by omega) j hj
theorem w80_word (ys : List (BitVec 8)) (t : Nat) (ht : t < 80) : nb (w80 (w16 80 ys 128) 64) t = wf (w16 16 ys 128) t :=
  w80_spec _ _ (w16_len _ _ _) (w16_more ys 128 (by omega)) 64 (by omega) t (by omega)
def chunkS (m : List (BitVec 8)) (k : Nat) : List (BitVec 8) := (m.drop (128 * k)).take 128
def absS (s : List (BitVec 64)) (m : List (BitVec 8)) : Nat → List (BitVec 64)
  | 0 => s
  | k + 1 => blockL (absS s m k) (chunkS m k)
theorem absS_len (s : List (BitVec 64)) (m : List (BitVec 8)) (k : Nat) : (absS s m k).length = s.length := by induction k <;> simp [absS, blockL_len, *]
def lenY (n : Nat) : List (BitVec 8) := (List.range 16).map fun i => BitVec.ofNat 8 (8 * n / 2 ^ (8 * (15 - i)))
def padZ (n : Nat) : Nat := (239 - n % 128) % 128
def tailS (n : Nat) : List (BitVec 8) := 128#8 :: (List.replicate (padZ n) 0 ++ lenY n)
def outS (s : List (BitVec 64)) : Nat → List (BitVec 8)
  | 0 => List.replicate 64 0
  | i + 1 => (outS s i).set i ((nb s (i / 8) >>> (56 - 8 * (i % 8))).setWidth 8)
theorem outS_len (s : List (BitVec 64)) (i : Nat) : (outS s i).length = 64 := by induction i <;> simp [outS, *]
def padS (m : List (BitVec 8)) : List (BitVec 8) := m ++ tailS m.length
def shaL (m : List (BitVec 8)) : List (BitVec 8) := outS (absS shaH (padS m) ((padS m).length / 128)) 64
theorem shaL_len (m : List (BitVec 8)) : (shaL m).length = 64 := outS_len _ _
end Go.Proofs.Ytejnnghfelpioaa
namespace Go.Proofs.Ytejnnghfelpioaa
open Go.RowKit
def nn (xs : List Nat) (j : Nat) : Nat := xs.getD j 0
def cellsN (xs : List Nat) : Array Value := (xs.map fun x : Nat => Value.int .i64 (x : Int)).toArray
def ArrN (t : TypeId) (w : World) (b : Nat) (xs : List Nat) : Prop := w.heap[b]? = some (.cells (cellsN xs) t (0, 0))
theorem ArrN.cell {t : TypeId} {w : World} {b : Nat} {xs : List Nat} (h : ArrN t w b xs) (j : Nat) (hj : j < xs.length) : w.cell? ⟨b, j, none⟩ = some (.int .i64 ((nn xs j : Nat) : Int)) := by
  unfold ArrN at h
  simp [World.cell?, h, cellsN, nn, hj]
theorem ArrN.free {t : TypeId} {w : World} {b : Nat} {xs : List Nat} (h : ArrN t w b xs) (j : Nat) : w.frozen? ⟨b, j, none⟩ = false := by
  unfold ArrN at h
  simp [World.frozen?, h]
theorem ArrN.lt {t : TypeId} {w : World} {b : Nat} {xs : List Nat} (h : ArrN t w b xs) : b < w.heap.size := by
  unfold ArrN at h
  exact (Array.getElem?_eq_some_iff.1 h).1
theorem ArrN.set {t : TypeId} {w : World} {b : Nat} {xs : List Nat} (h : ArrN t w b xs) (j : Nat) (x : Nat) : ArrN t (w.setCell ⟨b, j, none⟩ (.int .i64 (x : Int))) b (xs.set j x) := by
  unfold ArrN at *
  simp [World.setCell, Array.getElem?_modify, h, cellsN, List.map_set]
theorem ArrN.other {t : TypeId} {w : World} {b : Nat} {xs : List Nat} (h : ArrN t w b xs) {a : Addr} (ha : b ≠ a.block) (v : Value) : ArrN t (w.setCell a v) b xs := by
  unfold ArrN at *
  rw [Below.heap_setCell _ _ _ _ ha]; exact h
theorem ArrN.below {t : TypeId} {w w' : World} {b B : Nat} {xs : List Nat} (h : ArrN t w b xs) (hb : Below B w w') (hB : b < B) : ArrN t w' b xs := by
  unfold ArrN at *
  rw [hb.block b hB]; exact h
theorem ArrN.alloc {t : TypeId} {w : World} {b : Nat} {xs : List Nat} (h : ArrN t w b xs) (o : Obj) : ArrN t (w.alloc o) b xs := by
  unfold ArrN at *
  rw [Below.heap_alloc _ _ _ (ArrN.lt h)]; exact h
theorem ArrN.drew {t : TypeId} {w : World} {b : Nat} {xs : List Nat} (h : ArrN t w b xs) : ArrN t w.drew b xs := h
theorem ArrN.ext {t : TypeId} {w : World} {b : Nat} {xs : List Nat} (h : ArrN t w b xs) (x : World) : ArrN t (w.ext x) b xs := h.below (w.ext_below x) h.lt
theorem ArrN.new (t : TypeId) (w : World) (xs : List Nat) : ArrN t (w.alloc (.cells (cellsN xs) t)) w.heap.size xs := by
  unfold ArrN
  show (w.heap.push _)[w.heap.size]? = _
  simp
theorem ArrB.all {t : TypeId} {w : World} {b : Nat} {xs : List (BitVec 64)} {n : Nat} (h : ArrB t w b xs) (hn : xs.length = n) : ∀ j, j < n → w.cell? ⟨b, j, none⟩ = some (.int .u64 (iv (nb xs j))) := fun j hj => h.cell j (by omega)
theorem ArrN.all {t : TypeId} {w : World} {b : Nat} {xs : List Nat} {n : Nat} (h : ArrN t w b xs) (hn : xs.length = n) : ∀ j, j < n → w.cell? ⟨b, j, none⟩ = some (.int .i64 ((nn xs j : Nat) : Int)) := fun j hj => h.cell j (by omega)
theorem heap_setRow (w : World) (g : Nat) (cs old : Array Value) (t : TypeId) (h : w.heap[g]? = some (.cells old t (0, 0))) : (w.setRow g cs).heap[g]? = some (.cells cs t (0, 0)) := by
  simp [World.setRow, Array.getElem?_modify, h]
theorem below_setRow {B : Nat} {a w : World} (h : Below B a w) (g : Nat) (hg : B ≤ g) (cs : Array Value) : Below B a (w.setRow g cs) :=
  h.trans ⟨rfl, rfl, rfl, by simp [World.setRow], fun k hk => by
    simp only [World.setRow, Array.getElem?_modify]
    rw [if_neg (by omega)]⟩
end Go.Proofs.Ytejnnghfelpioaa
namespace Go.Proofs.Ytejnnghfelpioaa
open Go.RowKit
theorem u80 : Try.prog.underlying 123 = some (.array 80 23) := by kernel_rfl
theorem u8w : Try.prog.underlying 102 = some (.array 8 23) := by kernel_rfl
theorem i80 : (Try.prog.info? 123).map (·.size) = some 80 := by kernel_rfl
theorem i8w : (Try.prog.info? 102).map (·.size) = some 8 := by kernel_rfl
def zeroB (n : Nat) : List (BitVec 64) := List.replicate n 0
theorem zero80 : (Try.prog.info? 123).bind (·.zero) = some (.agg (cellsB (zeroB 80))) := by kernel_rfl
theorem zero8 : (Try.prog.info? 102).bind (·.zero) = some (.agg (cellsB (zeroB 8))) := by kernel_rfl
theorem squares_any (w : World) : Calls Try.prog 75 #[] w fun e w' => e = .returned (.agg (cellsB shaH)) ∧ Below w.heap.size w w' := by
  have hZ := hid (ArrB.new 102 w (zeroB 8))
  have hb : Below w.heap.size w (w.alloc (.cells (cellsB (zeroB 8)) 102)) := (Below.refl _ _).alloc (Nat.le_refl _) _
  have iR := hid (show (Try.prog.info? 102).map (·.size) = some (cellsB shaH).size from by rw [size_cellsB]; exact i8w)
  have oR := hid (show (cellsB (zeroB 8)).size = (cellsB shaH).size by rw [size_cellsB, size_cellsB]; rfl)
  go_enter Try.func75, Try.ntmps75
  go_wp2_with (first | (refine wpList_alloc_new rfl 102 rfl (cellsB (zeroB 8)) zero8 ?_; simp only [Act.put, pvA, pv0, pv1]) | (refine wpList_buildStore 102 _ (.tmp 0) 1 (cellsB shaH) w.heap.size rfl rfl rfl rfl rfl rfl (by simp) (by kernel_rfl) rfl 102 _ hZ.out iR.out oR.out (one_cellsB _) ?_; simp only [Act.put, pvA, pv0, pv1]))
  refine bodyPost_ret (results_cell_row rfl _ _ w.heap.size 102 (cellsB shaH) (0, 0) _ rfl (heap_setRow _ _ _ _ _ hZ.out) u8w rfl iR.out) rfl ⟨rfl, below_setRow hb _ (Nat.le_refl _) _⟩
theorem roots_any (w : World) : Calls Try.prog 87 #[] w fun e w' => e = .returned (.agg (cellsB shaK)) ∧ Below w.heap.size w w' := by
  have hZ := hid (ArrB.new 123 w (zeroB 80))
  have hb : Below w.heap.size w (w.alloc (.cells (cellsB (zeroB 80)) 123)) := (Below.refl _ _).alloc (Nat.le_refl _) _
  have iR := hid (show (Try.prog.info? 123).map (·.size) = some (cellsB shaK).size from by rw [size_cellsB]; exact i80)
  have oR := hid (show (cellsB (zeroB 80)).size = (cellsB shaK).size by rw [size_cellsB, size_cellsB]; rfl)
  go_enter Try.func87, Try.ntmps87
  go_wp2_with (first | (refine wpList_alloc_new rfl 123 rfl (cellsB (zeroB 80)) zero80 ?_; simp only [Act.put, pvA, pv0, pv1]) | (refine wpList_buildStore 123 _ (.tmp 0) 1 (cellsB shaK) w.heap.size rfl rfl rfl rfl rfl rfl (by simp) (by kernel_rfl) rfl 123 _ hZ.out iR.out oR.out (one_cellsB _) ?_; simp only [Act.put, pvA, pv0, pv1]))
  refine bodyPost_ret (results_cell_row rfl _ _ w.heap.size 123 (cellsB shaK) (0, 0) _ rfl (heap_setRow _ _ _ _ _ hZ.out) u80 rfl iR.out) rfl ⟨rfl, below_setRow hb _ (Nat.le_refl _) _⟩
theorem rotR_any (x : BitVec 64) (n : Nat) (h1 : 1 ≤ n) (h2 : n ≤ 63) (w : World) :
    Calls Try.prog 88 #[.int .u64 (iv x), .int .i64 (-(n : Int))] w fun e w' => e = .returned (.int .u64 (iv (rr x n))) ∧ Below w.heap.size w w' := by
  have := rot_any x (-(n : Int)) w
  rw [show ((-(n : Int)) % 64).toNat = 64 - n from by omega] at this
  exact this
theorem turned_any (x : BitVec 64) (a b c : Nat) (ha : 1 ≤ a) (ha' : a ≤ 63) (hb : 1 ≤ b) (hb' : b ≤ 63) (hc : 1 ≤ c) (hc' : c ≤ 63) (w : World) :
    Calls Try.prog 89 #[.int .u64 (iv x), .int .i64 a, .int .i64 b, .int .i64 c] w fun e w' => e = .returned (.int .u64 (iv (rr x a ^^^ rr x b ^^^ rr x c))) ∧ Below w.heap.size w w' := by
  go_enter Try.func89, Try.ntmps89
  go_wp2_with (go_at_call 88; (with_reducible refine (Calls.asExt (rotR_any _ _ (by assumption) (by assumption) _)).mono ?_); rintro _ _ ⟨rfl, _, rfl⟩)
  go_ret
  refine ⟨ret_int ?_, (by repeat (first | (with_reducible first | exact Below.refl _ _ | assumption | refine World.ext_below_of ?_ ?_ _ | refine Below.setCell ?_ ?_ _ | refine Below.alloc ?_ ?_ _ | refine Below.drew ?_ | refine World.size_le_ext _ _ _ ?_) | (solve | simp [go_sem] | (simp [go_sem]; omega) | omega)))⟩
  rw [iv_xor, iv_xor]
end Go.Proofs.Ytejnnghfelpioaa
namespace Go
open Go.RowKit
theorem wpList_copy_row {P : Program} {ops : Array Oper} {rest : List Oper} {o : Oper} {a : Act} {w : World} {Q : Exit → Act → World → Prop} (hgd : o.guard = none) (d x : Operand) (dT sT : TypeId)
    (ho : o.op = .call { callee := .builtin .copy, args := #[d, x], argTypes := #[dT, sT] }) (elem : TypeId) (g off dLen dCap : Nat) (hd : a.eval d = .slice (some ⟨g, off, none⟩) dLen dCap) (ad : Addr) (sLen sCap : Nat) (hx : a.eval x = .slice (some ad) sLen sCap) (cur : Array Value) (t : TypeId) (cs : List Value)
    (hu : P.underlying dT = some (.slice elem)) (hs : (P.info? elem).map (·.size) = some 1)
    (hg : w.heap[g]? = some (.cells cur t (0, 0))) (hn : cs.length = Nat.min sLen dLen)
    (hsrc : ∀ j v, cs[j]? = some v → w.cell? (ad.add j) = some v) (hfit : off + cs.length ≤ cur.size) (h1 : ∀ v ∈ cs, v.oneCell' = true)
    (h : wpList P ops Q rest (a.put o.dst (goInt cs.length)) (w.setRow g (setPart cur off cs.toArray))) : wpList P ops Q (o :: rest) a w :=
  wpList_plain hgd fun _ hK => by
    have hrun := run_copy_row (P := P) w dT sT o.type elem g off dLen dCap ad sLen sCap cur t cs hu hs hg hn hsrc hfit h1
    unfold Oper.wp execOp
    simp only [ho, resolve, invoke, builtin, Sem.run_bind, Sem.run_pure, Result.andThen_ok, List.map_toArray, List.map_cons, List.map_nil, hd, hx, hrun]
    refine hK _ _ ?_
    simpa [setPart] using h
end Go
namespace Go.Proofs.Ytejnnghfelpioaa
open Go.RowKit
theorem ArrB.grown {t : TypeId} {w w' : World} {b : Nat} {row : Option Nat} {xs : List (BitVec 64)} (h : ArrB t w b xs) (hg : w.grownBy w' row) (hne : some b ≠ row) : ArrB t w' b xs := by
  have hl := h.lt
  unfold ArrB at *
  rw [hg.block b hl hne]; exact h
theorem grownBy_refl (w : World) (row : Option Nat) : w.grownBy w row := ⟨rfl, rfl, rfl, Nat.le_refl _, fun _ _ _ => rfl⟩
theorem grownBy_trans {a b c : World} {row : Option Nat} (h : a.grownBy b row) (k : b.grownBy c row) : a.grownBy c row :=
  ⟨k.os.trans h.os, k.tape.trans h.tape, k.output.trans h.output, Nat.le_trans h.size k.size, fun i hi hn => (k.block i (Nat.lt_of_lt_of_le hi h.size) hn).trans (h.block i hi hn)⟩
theorem grownBy_below {a b c : World} {row : Option Nat} (h : a.grownBy b row) (k : Below b.heap.size b c) : a.grownBy c row :=
  ⟨k.os.trans h.os, k.tape.trans h.tape, k.output.trans h.output, Nat.le_trans h.size k.size, fun i hi hn => (k.block i (Nat.lt_of_lt_of_le hi h.size)).trans (h.block i hi hn)⟩
theorem grownBy_setCell {a b : World} {row : Option Nat} (h : a.grownBy b row) {p : Addr} (hp : some p.block = row ∨ a.heap.size ≤ p.block) (v : Value) : a.grownBy (b.setCell p v) row :=
  ⟨h.os, h.tape, h.output, by simpa [World.setCell] using h.size, fun i hi hn => by
    rw [Below.heap_setCell _ _ _ _ (by
      rcases hp with hp | hp
      · intro e; subst e; exact hn hp
      · omega)]; exact h.block i hi hn⟩
theorem grownBy_alloc {a b : World} {row : Option Nat} (h : a.grownBy b row) (o : Obj) : a.grownBy (b.alloc o) row := grownBy_below h ((Below.refl _ _).alloc (Nat.le_refl _) o)
theorem grownBy_ext {a b : World} {row : Option Nat} (h : a.grownBy b row) (x : World) : a.grownBy (b.ext x) row := grownBy_below h (b.ext_below x)
end Go.Proofs.Ytejnnghfelpioaa
namespace Go.Proofs.Ytejnnghfelpioaa
open Go.RowKit
def shaC (s : List (BitVec 64)) (y : List (BitVec 8)) (n : Nat) (a : BitVec 64) : Array Value := cellsB s ++ cellsY y ++ #[.int .i64 n, .int .u64 (iv a)]
theorem shaC_s (s : List (BitVec 64)) (y : List (BitVec 8)) (n : Nat) (a : BitVec 64) (hs : s.length = 8) : ∀ j v, (cellsB s)[j]? = some v → (shaC s y n a)[0 + j]? = some v := by
  intro j v h
  have hj : j < (cellsB s).size := (Array.getElem?_eq_some_iff.1 h).1
  rw [Nat.zero_add]
  unfold shaC
  rw [Array.append_assoc, Array.getElem?_append_left hj]; exact h
theorem shaC_y (s : List (BitVec 64)) (y : List (BitVec 8)) (n : Nat) (a : BitVec 64) (hs : s.length = 8) : ∀ j v, (cellsY y)[j]? = some v → (shaC s y n a)[8 + j]? = some v := by
  intro j v h
  have hj : j < (cellsY y).size := (Array.getElem?_eq_some_iff.1 h).1
  have h8 : (cellsB s).size = 8 := by rw [size_cellsB]; exact hs
  unfold shaC
  rw [Array.append_assoc, Array.getElem?_append_right (by omega), h8, show 8 + j - 8 = j by omega, Array.getElem?_append_left hj]; exact h
theorem shaC_n (s : List (BitVec 64)) (y : List (BitVec 8)) (n : Nat) (a : BitVec 64) (hs : s.length = 8) (hy : y.length = 128) : (shaC s y n a)[136]? = some (.int .i64 n) := by
  unfold shaC
  rw [Array.getElem?_append_right (by simp [size_cellsB, size_cellsY, hs, hy])]
  simp [size_cellsB, size_cellsY, hs, hy]
theorem shaC_a (s : List (BitVec 64)) (y : List (BitVec 8)) (n : Nat) (a : BitVec 64) (hs : s.length = 8) (hy : y.length = 128) : (shaC s y n a)[137]? = some (.int .u64 (iv a)) := by
  unfold shaC
  rw [Array.getElem?_append_right (by simp [size_cellsB, size_cellsY, hs, hy])]
  simp [size_cellsB, size_cellsY, hs, hy]
theorem shaC_size (s : List (BitVec 64)) (y : List (BitVec 8)) (n : Nat) (a : BitVec 64) (hs : s.length = 8) (hy : y.length = 128) : (shaC s y n a).size = 138 := by
  simp [shaC, size_cellsB, size_cellsY, hs, hy]
theorem shaC_setS (s : List (BitVec 64)) (y : List (BitVec 8)) (n : Nat) (a x : BitVec 64) (i : Nat) (hi : i < s.length) : (shaC s y n a).setIfInBounds i (.int .u64 (iv x)) = shaC (s.set i x) y n a := by
  have h : i < (cellsB s).size := by rw [size_cellsB]; exact hi
  unfold shaC
  rw [Array.append_assoc, Array.setIfInBounds_append_left h, ← Array.append_assoc]
  congr 2
  simp [cellsB, List.map_set]
theorem shaC_setN (s : List (BitVec 64)) (y : List (BitVec 8)) (n m : Nat) (a : BitVec 64) (hs : s.length = 8) (hy : y.length = 128) : (shaC s y n a).setIfInBounds 136 (.int .i64 m) = shaC s y m a := by
  unfold shaC
  rw [Array.setIfInBounds_append_right (by simp [size_cellsB, size_cellsY, hs, hy])]
  simp [size_cellsB, size_cellsY, hs, hy]
theorem shaC_setA (s : List (BitVec 64)) (y : List (BitVec 8)) (n : Nat) (a b : BitVec 64) (hs : s.length = 8) (hy : y.length = 128) : (shaC s y n a).setIfInBounds 137 (.int .u64 (iv b)) = shaC s y n b := by
  unfold shaC
  rw [Array.setIfInBounds_append_right (by simp [size_cellsB, size_cellsY, hs, hy])]
  simp [size_cellsB, size_cellsY, hs, hy]
def HasS (w : World) (hb : Nat) (s : List (BitVec 64)) (y : List (BitVec 8)) (n : Nat) (a : BitVec 64) : Prop := w.heap[hb]? = some (.cells (shaC s y n a) 112 (0, 0))
theorem HasS.lt {w : World} {hb : Nat} {s : List (BitVec 64)} {y : List (BitVec 8)} {n : Nat} {a : BitVec 64} (h : HasS w hb s y n a) : hb < w.heap.size := (Array.getElem?_eq_some_iff.1 h).1
theorem HasS.grown {w w' : World} {hb : Nat} {s : List (BitVec 64)} {y : List (BitVec 8)} {n : Nat} {a : BitVec 64} {row : Option Nat} (h : HasS w hb s y n a) (hg : w.grownBy w' row) (hr : some hb ≠ row) : HasS w' hb s y n a := (hg.block hb h.lt hr).trans h
theorem HasS.below {w w' : World} {hb : Nat} {s : List (BitVec 64)} {y : List (BitVec 8)} {n : Nat} {a : BitVec 64} {B : Nat} (h : HasS w hb s y n a) (hg : Below B w w') (hr : hb < B) : HasS w' hb s y n a := (hg.block hb hr).trans h
theorem HasS.other {w : World} {hb : Nat} {s : List (BitVec 64)} {y : List (BitVec 8)} {n : Nat} {a : BitVec 64} (h : HasS w hb s y n a) {p : Addr} (hp : hb ≠ p.block) (v : Value) : HasS (w.setCell p v) hb s y n a := by
  unfold HasS at *; rw [Below.heap_setCell _ _ _ _ hp]; exact h
theorem HasS.cellS {w : World} {hb : Nat} {s : List (BitVec 64)} {y : List (BitVec 8)} {n : Nat} {a : BitVec 64} (h : HasS w hb s y n a) (hs : s.length = 8) : ∀ j, j < 8 → w.cell? ⟨hb, j, none⟩ = some (.int .u64 (iv (nb s j))) := fun j hj => by
  have := shaC_s s y n a hs j (.int .u64 (iv (nb s j))) (by simp [cellsB, nb, show j < s.length by omega])
  rw [Nat.zero_add] at this
  rw [cell_of_row w hb j _ _ _ h]; exact this
theorem HasS.cellN {w : World} {hb : Nat} {s : List (BitVec 64)} {y : List (BitVec 8)} {n : Nat} {a : BitVec 64} (h : HasS w hb s y n a) (hs : s.length = 8) (hy : y.length = 128) : w.cell? ⟨hb, 136, none⟩ = some (.int .i64 n) := by
  rw [cell_of_row w hb 136 _ _ _ h]; exact shaC_n s y n a hs hy
theorem HasS.cellA {w : World} {hb : Nat} {s : List (BitVec 64)} {y : List (BitVec 8)} {n : Nat} {a : BitVec 64} (h : HasS w hb s y n a) (hs : s.length = 8) (hy : y.length = 128) : w.cell? ⟨hb, 137, none⟩ = some (.int .u64 (iv a)) := by
  rw [cell_of_row w hb 137 _ _ _ h]; exact shaC_a s y n a hs hy
theorem HasS.free {w : World} {hb : Nat} {s : List (BitVec 64)} {y : List (BitVec 8)} {n : Nat} {a : BitVec 64} (h : HasS w hb s y n a) (j : Nat) : w.frozen? ⟨hb, j, none⟩ = false := by
  unfold HasS at h; simp [World.frozen?, h]
theorem HasS.put {w : World} {hb : Nat} {s s' : List (BitVec 64)} {y y' : List (BitVec 8)} {n n' : Nat} {a a' : BitVec 64} (h : HasS w hb s y n a) (j : Nat) (v : Value) (he : (shaC s y n a).setIfInBounds j v = shaC s' y' n' a') : HasS (w.setCell ⟨hb, j, none⟩ v) hb s' y' n' a' := by
  unfold HasS at *
  simp [World.setCell, Array.getElem?_modify, h, he]
theorem uY8 : Try.prog.underlying 5 = some (.int .u8) := by kernel_rfl
theorem y_idx (l : List (BitVec 8)) (t : TypeId) (n : Nat) (hu : Try.prog.underlying t = some (.array n 5)) (hl : l.length = n) (i : Nat) (hi : i < n) (w : World) :
    (Instr.index t (.agg (cellsY l)) (.int .i64 (i : Int))).run Try.prog w = .ok (.int .u8 (yv (ny l i))) w := by
  have := run_index_ints (k' := .i64) (P := Try.prog) hu (by kernel_rfl) (by kernel_rfl) uY8 (l.map yv) (by simpa using hl) (i : Int) (by omega) (by omega) w
  rw [show (cellsY l) = ((l.map yv).map (Value.int .u8)).toArray from by simp [cellsY]]
  rw [this, Int.toNat_natCast]
  simp [ny, List.getD_eq_getElem?_getD, show i < l.length from by omega]
theorem u128 : Try.prog.underlying 110 = some (.array 128 5) := by kernel_rfl
theorem i128 : (Try.prog.info? 110).map (·.size) = some 128 := by kernel_rfl
theorem shaW_raw (x0 x9 x1 x2 : BitVec 64) : IntKind.u64.wrap (iv x0 + IntKind.u64.wrap (IntKind.u64.wrap (iv x9 + bits .xor .u64 (bits .xor .u64 (iv (rr x1 1)) (iv (rr x1 8))) (iv x1 / 128)) + bits .xor .u64 (bits .xor .u64 (iv (rr x2 19)) (iv (rr x2 61))) (iv x2 / 64))) = iv (x0 + (x9 + sg0 x1 + sg1 x2)) := by
  rw [show iv x1 / 128 = iv x1 / 2 ^ 7 from rfl, show iv x2 / 64 = iv x2 / 2 ^ 6 from rfl, iv_shr, iv_shr]
  simp only [iv_xor, iv_add]
  rfl
def oneV (v : List (BitVec 64)) (k x : BitVec 64) : BitVec 64 := nb v 7 + bs1 (nb v 4) + chs (nb v 4) (nb v 5) (nb v 6) + k + x
def twoV (v : List (BitVec 64)) : BitVec 64 := bs0 (nb v 0) + mjs (nb v 0) (nb v 1) (nb v 2)
theorem one_raw (v : List (BitVec 64)) (k x : BitVec 64) : IntKind.u64.wrap (IntKind.u64.wrap (IntKind.u64.wrap (IntKind.u64.wrap (iv (nb v 7) + iv (rr (nb v 4) 14 ^^^ rr (nb v 4) 18 ^^^ rr (nb v 4) 41)) +
    bits .xor .u64 (iv (nb v 6)) (bits .and .u64 (iv (nb v 4)) (bits .xor .u64 (iv (nb v 5)) (iv (nb v 6))))) + iv k) + iv x) = iv (oneV v k x) := by
  simp only [iv_xor, iv_and, iv_add]
  rfl
theorem two_raw (v : List (BitVec 64)) : IntKind.u64.wrap (iv (rr (nb v 0) 28 ^^^ rr (nb v 0) 34 ^^^ rr (nb v 0) 39) +
    bits .or .u64 (bits .and .u64 (iv (nb v 0)) (iv (nb v 1))) (bits .and .u64 (iv (nb v 2)) (bits .or .u64 (iv (nb v 0)) (iv (nb v 1))))) = iv (twoV v) := by
  simp only [iv_or, iv_and, iv_add]
  rfl
def shv (v : List (BitVec 64)) : List (BitVec 64) := [nb v 0, nb v 0, nb v 1, nb v 2, nb v 3, nb v 4, nb v 5, nb v 6]
theorem len8 {α : Type} {l : List α} (h : l.length = 8) : ∃ a b c d e f g i, l = [a, b, c, d, e, f, g, i] := by
  match l, h with
  | [a, b, c, d, e, f, g, i], _ => exact ⟨a, b, c, d, e, f, g, i, rfl⟩
theorem shv_part (v : List (BitVec 64)) (h : v.length = 8) : setPart (cellsB v) 1 ((v.take 7).map fun x => Value.int .u64 (iv x)).toArray = cellsB (shv v) := by
  obtain ⟨a, b, c, d, e, f, g, i, rfl⟩ := len8 h
  rfl
theorem shv_step (v : List (BitVec 64)) (k x : BitVec 64) : ((shv v).set 4 (nb (shv v) 4 + oneV v k x)).set 0 (oneV v k x + twoV v) = stepV v k x := rfl
theorem setRow_other (w : World) (g k : Nat) (cs : Array Value) (h : k ≠ g) : (w.setRow g cs).heap[k]? = w.heap[k]? := by
  simp only [World.setRow, Array.getElem?_modify]
  rw [if_neg (by omega)]
theorem grownBy_setRow {a b : World} {row : Option Nat} (h : a.grownBy b row) {g : Nat} (hp : some g = row ∨ a.heap.size ≤ g) (cs : Array Value) : a.grownBy (b.setRow g cs) row :=
  ⟨h.os, h.tape, h.output, by simpa [World.setRow] using h.size, fun i hi hn => by
    rw [setRow_other _ _ _ _ (by
      rcases hp with hp | hp
      · intro e; subst e; exact hn hp
      · omega)]; exact h.block i hi hn⟩
theorem sU1 : (Try.prog.info? 23).map (·.size) = some 1 := by kernel_rfl
theorem uSU : Try.prog.underlying 99 = some (.slice 23) := by kernel_rfl
set_option maxRecDepth 20000 in
set_option maxHeartbeats 2000000 in
theorem block_any (s : List (BitVec 64)) (y : List (BitVec 8)) (n : Nat) (a : BitVec 64) (hb : Nat) (w : World) (hs : s.length = 8) (hy : y.length = 128) (hH : HasS w hb s y n a) :
    Calls Try.prog 76 #[.pointer (some ⟨hb, 0, none⟩)] w fun e w' => e = .returned (.tuple #[]) ∧ HasS w' hb (blockL s y) y 0 a ∧ w.grownBy w' (some hb) := by
  have hbl := hH.lt
  have HH := hid hH
  have HS := hid hs
  have HY := hid hy
  have iY := hid (show (Try.prog.info? 110).map (·.size) = some (cellsY y).size by rw [size_cellsY, hy]; exact i128)
  have iS := hid (show (Try.prog.info? 102).map (·.size) = some (cellsB s).size by rw [size_cellsB, hs]; exact i8w)
  have zS := hid (show (cellsB (zeroB 8)).size = (cellsB s).size by rw [size_cellsB, size_cellsB, hs]; rfl)
  have pY := hid (shaC_y s y n a hs)
  have pS := hid (shaC_s s y n a hs)
  have hix := fun i (hi : i < 128) w => y_idx y 110 128 u128 hy i hi w
  have HIX := hid hix
  clear hix hH hs hy
  go_enter Try.func76, Try.ntmps76
  go_wp2_with (refine wpList_load_part rfl 110 (.tmp 16) rfl hb 8 rfl 112 _ (cellsY y) (0, 0) _ ((Below.heap_alloc _ _ _ hbl).trans HH.out) pY.out u128 rfl iY.out ?_; simp only [Act.put, pvA, pv0, pv1])
  go_loopw [18] (fun i wr => ∃ k : Nat, k ≤ 128 ∧ i = .int .i64 k ∧ Hid (ArrB 122 wr w.heap.size (w16 16 y k)) ∧ Hid (HasS wr hb s y n a) ∧ w.grownBy wr none)
    (fun i _ => 128 - (intOf i).toNat)
  case atStart => exact ⟨0, by omega, rfl, hid (ArrB.new _ _ (w16 16 y 0)), hid (HH.out.below ((Below.refl _ w).alloc (Nat.le_refl _) _) hbl), grownBy_alloc (grownBy_refl _ _) _⟩
  case round =>
    obtain ⟨k, hk, rfl, hW, hH, hg⟩ := hrel
    by_cases hlt : k < 128
    · have hi := HIX.out k hlt
      have h8 : k / 8 < 16 := by omega
      have c1 := hW.out.cell (k / 8) (by rw [w16_len]; exact h8)
      have f1 := hW.out.free (k / 8)
      have l1 := hW.out.lt
      go_wp2
      go_roundw
      case rel =>
        refine ⟨k + 1, by omega, by go_num, ?_, hid (hH.out.other (by show hb ≠ w.heap.size; omega) _), grownBy_setCell hg (.inr (Nat.le_refl _)) _⟩
        rw [show (iv (nb (w16 16 y k) (k / 8)) * 256) = iv (nb (w16 16 y k) (k / 8)) * 2 ^ 8 from rfl, iv_shl, yv_wrap, iv_or]
        exact hid (hW.out.set _ _)
      case measure => simp [intOf]; omega
    · obtain rfl : k = 128 := by omega
      clear hlt hk
      have iK := hid (show (Try.prog.info? 123).map (·.size) = some (cellsB shaK).size from by rw [size_cellsB]; exact i80)
      have zK := hid (show (cellsB (zeroB 80)).size = (cellsB shaK).size by rw [size_cellsB, size_cellsB]; rfl)
      have HR := hid (fun w => roots_any w)
      have HK : Hid (∃ l, l = shaK) := hid ⟨_, rfl⟩
      have nK := hid (one_cellsB shaK)
      obtain ⟨kk, hkk⟩ := HK.out
      rw [← hkk] at iK zK HR nK
      have HKK := hid hkk
      clear hkk
      go_wp2_with fail
      refine (HR.out _).mono ?_
      rintro e w1 ⟨rfl, hb1⟩
      have hW1 := hid (hW.out.below hb1 hW.out.lt)
      have hH1 := hid (hH.out.below hb1 hH.out.lt)
      have hg1 := grownBy_below hg hb1
      obtain ⟨B, hB⟩ : ∃ B, B = w1.heap.size := ⟨_, rfl⟩
      have lW := hW1.out.lt
      have lH := hH1.out.lt
      clear hW hH hg hb1
      go_wp2_with (first | (refine wpList_allocStore 123 34 5 (cellsB kk) (cellsB (zeroB 80)) rfl rfl rfl rfl rfl rfl (by decide) (by simp) rfl (by kernel_rfl) zK.out iK.out nK.out ?_; simp only [Act.put, pvA, pv0, pv1]) | (refine wpList_load_part rfl 102 (.tmp 37) rfl hb 0 rfl 112 _ (cellsB s) (0, 0) _ ((Below.heap_alloc _ _ _ lH).trans hH1.out) pS.out u8w rfl iS.out ?_; simp only [Act.put, pvA, pv0, pv1]) | (refine wpList_allocStore 102 38 6 (cellsB s) (cellsB (zeroB 8)) rfl rfl rfl rfl rfl rfl (by decide) (by simp) rfl (by kernel_rfl) zS.out iS.out (one_cellsB s) ?_; simp only [Act.put, pvA, pv0, pv1]))
      have hK2 : ArrB 123 ((w1.alloc (.cells (cellsB kk) 123)).alloc (.cells (cellsB s) 102)) B kk := by rw [hB]; exact (ArrB.new _ _ _).alloc _
      have hV2 : ArrB 102 ((w1.alloc (.cells (cellsB kk) 123)).alloc (.cells (cellsB s) 102)) (B + 1) s := by
        have := ArrB.new 102 (w1.alloc (.cells (cellsB kk) 123)) s
        rw [World.size_alloc, ← hB] at this; exact this
      have hW2 := (hW1.out.alloc (.cells (cellsB kk) 123)).alloc (.cells (cellsB s) 102)
      have hH2 : HasS ((w1.alloc (.cells (cellsB kk) 123)).alloc (.cells (cellsB s) 102)) hb s y n a := (hH1.out.below ((Below.refl _ w1).alloc (Nat.le_refl _) _) lH).below (B := w1.heap.size) ((Below.refl _ _).alloc (by simp) _) lH
      have hg2 := grownBy_alloc (grownBy_alloc hg1 (.cells (cellsB kk) 123)) (.cells (cellsB s) 102)
      simp only [World.size_alloc, ← hB]
      generalize (w1.alloc (.cells (cellsB kk) 123)).alloc (.cells (cellsB s) 102) = w2 at hK2 hV2 hW2 hH2 hg2 ⊢
      have hWB : w.heap.size < B := by omega
      have hHB : hb < B := by omega
      obtain ⟨bl, hbl2⟩ : ∃ bl, bl = w16 16 y 128 := ⟨_, rfl⟩
      have hbll : bl.length = 16 := by rw [hbl2, w16_len]
      rw [← hbl2] at hW2
      have HBL := hid hbl2
      have HBLL := hid hbll
      have HK2 := hid hK2
      have HV2 := hid hV2
      have HW2 := hid hW2
      have HH2 := hid hH2
      clear hbl2 hbll hK2 hV2 hW2 hH2 hW1 hH1 hg1 lW lH iK zK nK HR HIX pY iY hB HK
      clear w1
      go_loopw [39] (fun i wr => ∃ t : Nat, t ≤ 80 ∧ i = .int .i64 t ∧ Hid (ArrB 123 wr B kk) ∧ Hid (ArrB 102 wr (B + 1) (vGo bl s t)) ∧ Hid (ArrB 122 wr w.heap.size (cw bl t)) ∧ Hid (HasS wr hb s y n a) ∧ w.grownBy wr none)
        (fun i _ => 80 - (intOf i).toNat)
      case atStart => exact ⟨0, by omega, rfl, HK2, HV2, HW2, HH2, hg2⟩
      case round =>
        clear HK2 HV2 HW2 HH2 hg2
        obtain ⟨t, ht, rfl, hK, hV, hW, hH, hg⟩ := hrel
        by_cases hlt : t < 80
        · have hlv := hid (vGo_len bl s HS.out t)
          have hlw := hid ((cw_len bl t).trans HBLL.out)
          obtain ⟨v, hv⟩ : ∃ v, v = vGo bl s t := ⟨_, rfl⟩
          obtain ⟨cc, hcc⟩ : ∃ cc, cc = cw bl t := ⟨_, rfl⟩
          rw [← hv] at hV hlv
          rw [← hcc] at hW hlw
          have HV := hid hv
          have HC := hid hcc
          clear hv hcc
          have h0 : t % 16 < 16 := Nat.mod_lt _ (by omega)
          have c0 := hW.out.cell (t % 16) (by rw [hlw.out]; omega)
          have f0 := hW.out.free (t % 16)
          have l0 := hW.out.lt
          have l1 := hV.out.lt
          have l2 := hK.out.lt
          by_cases h16 : 16 ≤ t
          focus
            have h1 : (t + 1) % 16 < 16 := Nat.mod_lt _ (by omega)
            have h2 : (t + 14) % 16 < 16 := Nat.mod_lt _ (by omega)
            have h3 : (t + 9) % 16 < 16 := Nat.mod_lt _ (by omega)
            have c1 := hW.out.cell ((t + 1) % 16) (by rw [hlw.out]; omega)
            have c2 := hW.out.cell ((t + 14) % 16) (by rw [hlw.out]; omega)
            have c3 := hW.out.cell ((t + 9) % 16) (by rw [hlw.out]; omega)
            have n1 := iv_nonneg (nb cc ((t + 1) % 16))
            have n2 := iv_nonneg (nb cc ((t + 14) % 16))
            go_wp2_with fail
            (refine wp_region_ext (by kernel_rfl) (by kernel_rfl) ?_; (repeat (go_big_quiet_step (first | fail))); refine wpQuiet_nil ?_; rintro _ ⟨xw, rfl⟩)
            have hK1 := hK.out.ext xw
            have hV1 := hV.out.ext xw
            have hW1 := hW.out.ext xw
            have hH1 := hH.out.below (wr.ext_below xw) hH.out.lt
            have hg1 := grownBy_ext hg xw
            go_wp2_with fail
            clear c0 c1 c2 c3 f0
            generalize wr.ext xw = w1 at hK1 hV1 hW1 hH1 hg1 ⊢
            clear hK hV hW hH hg xw
            have c0 := hW1.cell (t % 16) (by rw [hlw.out]; omega)
            have f0 := hW1.free (t % 16)
            have c3 := hW1.cell ((t + 9) % 16) (by rw [hlw.out]; omega)
            have l0 := hW1.lt
            have HW1 := hid hW1
            clear hW1
            go_wp2_with fail
            (refine wp_region_ext_tail 28 (by kernel_rfl) (by kernel_rfl) ?_; simp only [List.take_succ_cons, List.take_zero, List.drop_succ_cons, List.drop_zero]; (repeat (go_big_quiet_step (first | (go_at_call 88; with_reducible refine Calls.ext_of (rotR_any _ _ (by decide) (by decide) _))))); refine wpQuiet_nil ?_; rintro _ ⟨xw, rfl⟩)
            go_wp2_with fail
            rw [shaW_raw]
            have hcc2 : cw bl (t + 1) = cc.set (t % 16) (nb cc (t % 16) + (nb cc ((t + 9) % 16) + sg0 (nb cc ((t + 1) % 16)) + sg1 (nb cc ((t + 14) % 16)))) := by
              rw [HC.out]; conv => lhs; unfold cw
              rw [if_pos h16]
            have hW2 := (HW1.out.ext xw).set (t % 16) (nb cc (t % 16) + (nb cc ((t + 9) % 16) + sg0 (nb cc ((t + 1) % 16)) + sg1 (nb cc ((t + 14) % 16))))
            rw [← hcc2] at hW2
            have hK2 := (hK1.ext xw).other (a := ⟨w.heap.size, t % 16, none⟩) (by show B ≠ w.heap.size; omega) (.int .u64 (iv (nb cc (t % 16) + (nb cc ((t + 9) % 16) + sg0 (nb cc ((t + 1) % 16)) + sg1 (nb cc ((t + 14) % 16))))))
            have hV2 := (hV1.ext xw).other (a := ⟨w.heap.size, t % 16, none⟩) (by show B + 1 ≠ w.heap.size; omega) (.int .u64 (iv (nb cc (t % 16) + (nb cc ((t + 9) % 16) + sg0 (nb cc ((t + 1) % 16)) + sg1 (nb cc ((t + 14) % 16))))))
            have hH2 := (hH1.below (w1.ext_below xw) hH1.lt).other (p := ⟨w.heap.size, t % 16, none⟩) (by show hb ≠ w.heap.size; omega) (.int .u64 (iv (nb cc (t % 16) + (nb cc ((t + 9) % 16) + sg0 (nb cc ((t + 1) % 16)) + sg1 (nb cc ((t + 14) % 16))))))
            have hg2 := grownBy_setCell (grownBy_ext hg1 xw) (p := ⟨w.heap.size, t % 16, none⟩) (.inr (Nat.le_refl _)) (.int .u64 (iv (nb cc (t % 16) + (nb cc ((t + 9) % 16) + sg0 (nb cc ((t + 1) % 16)) + sg1 (nb cc ((t + 14) % 16))))))
            generalize (w1.ext xw).setCell ⟨w.heap.size, t % 16, none⟩ (.int .u64 (iv (nb cc (t % 16) + (nb cc ((t + 9) % 16) + sg0 (nb cc ((t + 1) % 16)) + sg1 (nb cc ((t + 14) % 16)))))) = w2 at hW2 hK2 hV2 hH2 hg2 ⊢
            clear hK1 hV1 HW1 hH1 hg1 xw c0 f0 c3 l0 hcc2 w1 h1 h2 h3 n1 n2
          rotate_left
          focus
            have hcc2 : cw bl (t + 1) = cc := by
              rw [HC.out]; conv => lhs; unfold cw
              rw [if_neg h16]
            have hW2 := hW.out
            rw [← hcc2] at hW2
            have hK2 := hK.out
            have hV2 := hV.out
            have hH2 := hH.out
            have hg2 := hg
            go_wp2_with fail
            generalize wr = w2 at hW2 hK2 hV2 hH2 hg2 ⊢
            clear hcc2
          all_goals
            clear l0 l1 l2
            have cV := hV2.all hlv.out
            have fV := fun j => hV2.free j
            have cK := hK2.cell t (by rw [HKK.out]; exact hlt)
            have cX := hW2.cell (t % 16) (by rw [cw_len, HBLL.out]; exact h0)
            rw [cw_word bl HBLL.out] at cX
            have l0 := hW2.lt
            have l1 := hV2.lt
            have l2 := hK2.lt
            have HW2 := hid hW2
            have HV2 := hid hV2
            have HK2 := hid hK2
            have HH2 := hid hH2
            clear hW2 hV2 hK2 hH2
            go_wp2_with fail
            (refine wp_region_ext (by kernel_rfl) (by kernel_rfl) ?_; (repeat (go_big_quiet_step (first | (go_at_call 89; with_reducible refine Calls.ext_of (turned_any _ _ _ _ (by decide) (by decide) (by decide) (by decide) (by decide) (by decide) _))))); refine wpQuiet_nil ?_; rintro _ ⟨xw, rfl⟩)
            go_wp2_with fail
            rw [one_raw]
            have hW3 := hid (HW2.out.ext xw)
            have hV3 := hid (HV2.out.ext xw)
            have hK3 := hid (HK2.out.ext xw)
            have hH3 := hid (HH2.out.below (w2.ext_below xw) HH2.out.lt)
            have hg3 := grownBy_ext hg2 xw
            have ho : Hid (∃ o, o = oneV v (nb kk t) (wf bl t)) := hid ⟨_, rfl⟩
            obtain ⟨one, hone⟩ := ho.out
            rw [← hone]
            have HONE := hid hone
            generalize w2.ext xw = w3 at hW3 hV3 hK3 hH3 hg3 ⊢
            clear HW2 HV2 HK2 HH2 hg2 cV fV cK cX hone ho l0 l1 l2 xw w2
            have cV := hV3.out.all hlv.out
            have l1 := hV3.out.lt
            go_wp2_with fail
            (refine wp_region_ext (by kernel_rfl) (by kernel_rfl) ?_; (repeat (go_big_quiet_step (first | (go_at_call 89; with_reducible refine Calls.ext_of (turned_any _ _ _ _ (by decide) (by decide) (by decide) (by decide) (by decide) (by decide) _))))); refine wpQuiet_nil ?_; rintro _ ⟨xw, rfl⟩)
            go_wp2_with fail
            rw [two_raw]
            have hW4 := hid (hW3.out.ext xw)
            have hV4 := hid (hV3.out.ext xw)
            have hK4 := hid (hK3.out.ext xw)
            have hH4 := hid (hH3.out.below (w3.ext_below xw) hH3.out.lt)
            have hg4 := grownBy_ext hg3 xw
            generalize w3.ext xw = w4 at hW4 hV4 hK4 hH4 hg4 ⊢
            clear hW3 hV3 hK3 hH3 hg3 cV l1 xw w3
            have ht : Hid (∃ o, o = twoV v) := hid ⟨_, rfl⟩
            obtain ⟨two, htwo⟩ := ht.out
            rw [← htwo]
            have HTWO := hid htwo
            clear htwo ht
            (refine wp_region_ext_tail 2 (by kernel_rfl) (by kernel_rfl) ?_; simp only [List.take_succ_cons, List.take_zero, List.drop_succ_cons, List.drop_zero]; (repeat (go_big_quiet_step (first | fail))); refine wpQuiet_nil ?_; rintro _ ⟨xw, rfl⟩)
            have hV5 := hV4.out.ext xw
            refine wpList_copy_row rfl (.tmp 129) (.tmp 130) 99 99 rfl 23 (B + 1) 1 7 7 rfl ⟨B + 1, 0, none⟩ 7 8 rfl _ _ ((v.take 7).map fun x => Value.int .u64 (iv x)) uSU sU1 hV5 (by simp [hlv.out]) ?_ (by simp [hlv.out, size_cellsB]) ?_ ?_
            · intro j u hu
              have hj : j < 7 := by
                rcases Nat.lt_or_ge j 7 with h | h
                · exact h
                · rw [List.getElem?_eq_none (by simp [hlv.out]; omega)] at hu; cases hu
              have := hV5.cell j (by rw [hlv.out]; omega)
              rw [show (⟨B + 1, 0, none⟩ : Addr).add j = ⟨B + 1, j, none⟩ from by unfold Addr.add; split <;> simp_all, this, ← hu]
              have hl := hlv.out
              simp [nb, hj, List.getElem?_take, show j < v.length by omega]
            · intro u hu
              obtain ⟨x, _, rfl⟩ := List.mem_map.1 hu
              rfl
            rw [shv_part v hlv.out]
            have hW6 : ArrB 122 ((w4.ext xw).setRow (B + 1) (cellsB (shv v))) w.heap.size (cw bl (t + 1)) := (setRow_other _ _ _ _ (by omega)).trans (hW4.out.ext xw)
            have hV6 : ArrB 102 ((w4.ext xw).setRow (B + 1) (cellsB (shv v))) (B + 1) (shv v) := heap_setRow _ _ _ _ _ hV5
            have hK6 : ArrB 123 ((w4.ext xw).setRow (B + 1) (cellsB (shv v))) B kk := (setRow_other _ _ _ _ (by omega)).trans (hK4.out.ext xw)
            have hH6 : HasS ((w4.ext xw).setRow (B + 1) (cellsB (shv v))) hb s y n a := (setRow_other _ _ _ _ (by omega)).trans (hH4.out.below (w4.ext_below xw) hH4.out.lt)
            have hg6 : w.grownBy ((w4.ext xw).setRow (B + 1) (cellsB (shv v))) none := grownBy_setRow (grownBy_ext hg4 xw) (.inr (by omega)) _
            generalize (w4.ext xw).setRow (B + 1) (cellsB (shv v)) = w6 at hW6 hV6 hK6 hH6 hg6 ⊢
            clear hW4 hV4 hK4 hH4 hg4 hV5 xw w4
            have c4 := hV6.cell 4 (by simp [shv])
            have c00 := hV6.cell 0 (by simp [shv])
            have f4 := hV6.free
            have l1 := hV6.lt
            have HV6 := hid hV6
            have HW6 := hid hW6
            have HK6 := hid hK6
            have HH6 := hid hH6
            clear hV6 hW6 hK6 hH6
            go_wp2
            go_roundw
            case rel =>
              rw [iv_add, iv_add]
              refine ⟨t + 1, by omega, by go_num, hid (((HK6.out.other (by show B ≠ B + 1; omega) _).other (by show B ≠ B + 1; omega) _)), ?_, hid (((HW6.out.other (by show w.heap.size ≠ B + 1; omega) _).other (by show w.heap.size ≠ B + 1; omega) _)), hid (((HH6.out.other (by show hb ≠ B + 1; omega) _).other (by show hb ≠ B + 1; omega) _)), grownBy_setCell (grownBy_setCell hg6 (.inr (by show w.heap.size ≤ B + 1; omega)) _) (.inr (by show w.heap.size ≤ B + 1; omega)) _⟩
              have h7 := (HV6.out.set 4 (nb (shv v) 4 + one)).set 0 (one + two)
              rw [HONE.out, HTWO.out] at h7
              rw [HONE.out, HTWO.out]
              have h8 : vGo bl s (t + 1) = stepV v (nb kk t) (wf bl t) := by rw [HV.out, HKK.out]; rfl
              rw [h8, ← shv_step]
              exact hid h7
            case measure => simp [intOf]; omega
        · obtain rfl : t = 80 := by omega
          clear hlt ht HBLL
          have hlv := hid (vGo_len bl s HS.out 80)
          obtain ⟨v, hv⟩ : ∃ v, v = vGo bl s 80 := ⟨_, rfl⟩
          rw [← hv] at hV hlv
          have HV := hid hv
          clear hv hW hK
          go_wp2_with fail
          obtain ⟨wq, hwq⟩ : ∃ wq : World, wq = wr := ⟨_, rfl⟩
          subst hwq
          have hg0 : w.grownBy wq (some hb) := ⟨hg.os, hg.tape, hg.output, hg.size, fun k hk _ => hg.block k hk (by simp)⟩
          go_loopw [142] (fun i wr => ∃ k : Nat, k ≤ 8 ∧ i = .int .i64 k ∧ Hid (ArrB 102 wr (B + 1) v) ∧ Hid (HasS wr hb (addGo v s k) y n a) ∧ w.grownBy wr (some hb))
            (fun i _ => 8 - (intOf i).toNat)
          case atStart => exact ⟨0, by omega, rfl, hV, hH, hg0⟩
          case round =>
            clear hV hH hg0 hg
            obtain ⟨k, hk, rfl, hV, hH, hg⟩ := hrel
            by_cases hlt : k < 8
            · have hl8 := hid ((addGo_len v s k).trans HS.out)
              have c1 := hV.out.cell k (by rw [hlv.out]; exact hlt)
              have c2 := hH.out.cellS hl8.out k hlt
              have f2 := hH.out.free k
              have l1 := hV.out.lt
              have l2 := hH.out.lt
              go_wp2_with fail
              (refine wp_region_ext_tail 13 (by kernel_rfl) (by kernel_rfl) ?_; simp only [List.take_succ_cons, List.take_zero, List.drop_succ_cons, List.drop_zero]; (repeat (go_big_quiet_step (first | fail))); refine wpQuiet_nil ?_; rintro _ ⟨xw, rfl⟩)
              go_wp2
              go_roundw
              case rel =>
                rw [iv_add]
                refine ⟨k + 1, by omega, by go_num, hid ((hV.out.ext _).other (by show B + 1 ≠ hb; omega) _), hid ?_, grownBy_setCell (grownBy_ext hg _) (.inl rfl) _⟩
                exact HasS.put (hH.out.below (wr.ext_below xw) hH.out.lt) k _ (shaC_setS _ _ _ _ _ _ (by rw [hl8.out]; exact hlt))
              case measure => simp [intOf]; omega
            · obtain rfl : k = 8 := by omega
              have f1 := hH.out.free 136
              have l2 := hH.out.lt
              have c1 := hH.out.cellN ((addGo_len v s 8).trans HS.out) HY.out
              go_wp2
              go_end0
              refine ⟨rfl, ?_, grownBy_setCell hg (.inl rfl) _⟩
              have h7 := HasS.put hH.out 136 (.int .i64 0) (shaC_setN _ _ n 0 a ((addGo_len v s 8).trans HS.out) HY.out)
              rw [HV.out, HBL.out] at h7
              exact h7
end Go.Proofs.Ytejnnghfelpioaa
namespace Go.Proofs.Ytejnnghfelpioaa
open Go.RowKit
def RdX (hb : Nat) (w : World) (v : Value) (ys : List (BitVec 8)) : Prop :=
  ∃ a cap, v = .slice a ys.length cap ∧ ys.length ≤ cap ∧ (ys ≠ [] → ∃ b off, a = some ⟨b, off, none⟩ ∧ b ≠ hb ∧ b < w.heap.size ∧ ∀ j, j < ys.length → w.cell? ⟨b, off + j, none⟩ = some (.int .u8 (yv (ny ys j))))
theorem RdX.of {hb : Nat} {w : World} {v : Value} {ys : List (BitVec 8)} (h : RdY w v ys) (hd : ∀ b off n c, v = .slice (some ⟨b, off, none⟩) n c → 0 < n → b ≠ hb) : RdX hb w v ys := by
  obtain ⟨a, cap, rfl, hc, h⟩ := h
  refine ⟨a, cap, rfl, hc, fun hx => ?_⟩
  obtain ⟨b, off, rfl, h2, h3⟩ := h hx
  exact ⟨b, off, rfl, hd _ _ _ _ rfl (by cases ys <;> simp_all), h2, h3⟩
theorem RdX.below {hb : Nat} {w w' : World} {v : Value} {ys : List (BitVec 8)} (h : RdX hb w v ys) (hg : Below w.heap.size w w') : RdX hb w' v ys := by
  obtain ⟨a, cap, rfl, hc, h⟩ := h
  refine ⟨a, cap, rfl, hc, fun hx => ?_⟩
  obtain ⟨b, off, rfl, h1, h2, h3⟩ := h hx
  exact ⟨b, off, rfl, h1, Nat.lt_of_lt_of_le h2 hg.size, fun j hj => by rw [hg.cell (p := ⟨b, off + j, none⟩) h2]; exact h3 j hj⟩
theorem RdX.kept {hb : Nat} {w w' : World} {v : Value} {ys : List (BitVec 8)} (h : RdX hb w v ys) (hg : w.grownBy w' (some hb)) : RdX hb w' v ys := by
  obtain ⟨a, cap, rfl, hc, h⟩ := h
  refine ⟨a, cap, rfl, hc, fun hx => ?_⟩
  obtain ⟨b, off, rfl, h1, h2, h3⟩ := h hx
  refine ⟨b, off, rfl, h1, Nat.lt_of_lt_of_le h2 hg.size, fun j hj => ?_⟩
  rw [← h3 j hj]
  unfold World.cell?
  rw [hg.block b h2 (by simpa using h1)]
theorem RdX.drop {hb : Nat} {w : World} {a : Option Addr} {g off L cap m : Nat} {ys : List (BitVec 8)} (h : RdX hb w (.slice (some ⟨g, off, none⟩) L cap) ys) (hm : m ≤ L) (ha : m < L → a = some ⟨g, off + m, none⟩) : RdX hb w (.slice a (L - m) (cap - m)) (ys.drop m) := by
  obtain ⟨a', cap', e, hc, h⟩ := h
  simp at e
  obtain ⟨rfl, rfl, rfl⟩ := e
  refine ⟨a, cap - m, by simp, by simp; omega, fun hx => ?_⟩
  have hlt : m < ys.length := by
    rcases Nat.lt_or_ge m ys.length with h' | h'
    · exact h'
    · exact absurd (List.drop_eq_nil_of_le h') hx
  obtain ⟨b, off', e2, h1, h2, h3⟩ := h (by intro e; subst e; simp at hlt)
  simp at e2
  obtain ⟨rfl, rfl⟩ := e2
  refine ⟨g, off + m, ha hlt, h1, h2, fun j hj => ?_⟩
  simp at hj
  rw [Nat.add_assoc, h3 (m + j) (by omega)]
  simp [ny, List.getD_eq_getElem?_getD]
theorem shaC_part (s : List (BitVec 64)) (y z : List (BitVec 8)) (n : Nat) (a : BitVec 64) (r : Nat) (hs : s.length = 8) (hy : y.length = 128) (hr : r + z.length ≤ 128) :
    setPart (shaC s y n a) (8 + r) (z.map fun x => Value.int .u8 (yv x)).toArray = shaC s (y.take r ++ z ++ y.drop (r + z.length)) n a := by
  unfold setPart shaC cellsB cellsY
  apply Array.ext'
  simp only [Array.toList_append, List.map_append, List.map_take, List.map_drop, List.size_toArray, List.length_map]
  generalize hA : s.map (fun x => Value.int .u64 (iv x)) = A
  generalize hB : y.map (fun x => Value.int .u8 (yv x)) = B
  generalize hZ : z.map (fun x => Value.int .u8 (yv x)) = Z
  have lA : A.length = 8 := by rw [← hA]; simpa using hs
  have lB : B.length = 128 := by rw [← hB]; simpa using hy
  have lZ : Z.length = z.length := by rw [← hZ]; simp
  rw [← lZ] at hr ⊢
  rw [List.take_append_of_le_length (by simp; omega), show List.take (8 + r) (A ++ B) = A ++ List.take r B from by rw [← lA, List.take_length_add_append],
    List.drop_append_of_le_length (by simp; omega), show List.drop (8 + r + Z.length) (A ++ B) = List.drop (r + Z.length) B from by rw [Nat.add_assoc, ← lA, List.drop_length_add_append]]
  simp
def stS (s : List (BitVec 64)) (T : List (BitVec 8)) (p : Nat) : List (BitVec 64) := absS s T (p / 128)
def AtS (w : World) (hb : Nat) (s : List (BitVec 64)) (T : List (BitVec 8)) (p : Nat) (a : BitVec 64) : Prop :=
  ∃ y, y.length = 128 ∧ HasS w hb (stS s T p) y (p % 128) a ∧ y.take (p % 128) = (T.drop (128 * (p / 128))).take (p % 128)
theorem stS_len (s : List (BitVec 64)) (T : List (BitVec 8)) (p : Nat) : (stS s T p).length = s.length := absS_len _ _ _
theorem buf_more (y T : List (BitVec 8)) (p m : Nat) (hy : y.length = 128) (hm : p % 128 + m ≤ 128) (hT : p + m ≤ T.length) (h : y.take (p % 128) = (T.drop (128 * (p / 128))).take (p % 128)) :
    (y.take (p % 128) ++ (T.drop p).take m ++ y.drop (p % 128 + m)).take (p % 128 + m) = (T.drop (128 * (p / 128))).take (p % 128 + m) := by
  have hp : 128 * (p / 128) + p % 128 = p := Nat.div_add_mod p 128
  have e1 : (y.take (p % 128) ++ (T.drop p).take m).length = p % 128 + m := by simp; omega
  rw [List.take_left' e1, h, List.take_add, List.drop_drop, hp]
theorem sY1 : (Try.prog.info? 5).map (·.size) = some 1 := by kernel_rfl
theorem uSY2 : Try.prog.underlying 22 = some (.slice 5) := by kernel_rfl
theorem slRest (hb r : Nat) (hr : r < 128) (w : World) : (Instr.sliceAt 110 (.pointer (some ⟨hb, 8, none⟩)) (some (.int .i64 (r : Int))) none none).run Try.prog w = .ok (.slice (some ⟨hb, 8 + r, none⟩) (128 - r) (128 - r)) w := by
  have hl : Try.prog.arrayLen 110 = 128 := by kernel_rfl
  have he : Try.prog.elem 110 = 5 := by kernel_rfl
  have hu : Try.prog.underlying 110 = some (.array (Try.prog.arrayLen 110) (Try.prog.elem 110)) := by kernel_rfl
  obtain ⟨i, hi⟩ : ∃ i, Try.prog.info? 5 = some i := ⟨_, rfl⟩
  have hs : Try.prog.cellsOf 5 = 1 := by kernel_rfl
  rw [run_sliceAt_array_l w _ _ hu .i64 (r : Int) (by omega) (by rw [hl]; omega), hl, he, run_sizeOf w hi, hs]
  have : ¬ 128 = r := by omega
  simp [slicedAt, this, Addr.add]
set_option maxRecDepth 20000 in
set_option maxHeartbeats 1000000 in
theorem swrite_any (hb : Nat) (s : List (BitVec 64)) (T : List (BitVec 8)) (p : Nat) (a : BitVec 64) (v : Value) (w : World) (hs : s.length = 8) (hp : p ≤ T.length) (hH : AtS w hb s T p a) (hr : RdX hb w v (T.drop p)) (hl : T.length ≤ 140737488355328) :
    Calls Try.prog 50 #[.pointer (some ⟨hb, 0, none⟩), v] w fun e w' => e = .returned (.tuple #[]) ∧ AtS w' hb s T T.length (a + BitVec.ofNat 64 (T.length - p)) ∧ w.grownBy w' (some hb) := by
  obtain ⟨y, hy, hH, hyt⟩ := hH
  have HS := hid hs
  have HY := hid hy
  have HYT := hid hyt
  have HH := hid hH
  have HR := hid hr
  have hbl := hH.lt
  have ls : (stS s T p).length = 8 := (stS_len s T p).trans hs
  have c1 := hH.cellA ls hy
  have f1 := hH.free 137
  have HLS := hid ls
  obtain ⟨va, vc, rfl, hvc, -⟩ := hr
  have hdl : (T.drop p).length = T.length - p := by simp
  rw [hdl] at hvc HR ⊢
  clear hH hy hyt hs ls hdl
  go_enter Try.func50, Try.ntmps50
  go_wp2_with fail
  have hA : Hid (a + BitVec.ofNat 64 (T.length - p) = a + BitVec.ofNat 64 (T.length - p)) := hid rfl
  have hea : IntKind.u64.wrap (iv a + ((T.length - p : Nat) : Int)) = iv (a + BitVec.ofNat 64 (T.length - p)) := by
    rw [← iv_add, iv_ofNat _ (by omega)]
  rw [hea]
  obtain ⟨a2, ha2⟩ : ∃ x, x = a + BitVec.ofNat 64 (T.length - p) := ⟨_, rfl⟩
  rw [← ha2]
  have HA2 := hid ha2
  clear hA hea
  have hat : AtS (w.setCell ⟨hb, 137, none⟩ (.int .u64 (iv a2))) hb s T p a2 := ⟨y, HY.out, HasS.put HH.out 137 _ (shaC_setA _ _ _ _ _ HLS.out HY.out), HYT.out⟩
  have hg : w.grownBy (w.setCell ⟨hb, 137, none⟩ (.int .u64 (iv a2))) (some hb) := grownBy_setCell (grownBy_refl _ _) (.inl rfl) _
  have hrd := HR.out.kept hg
  have HAT := hid hat
  have HRD := hid hrd
  generalize w.setCell ⟨hb, 137, none⟩ (.int .u64 (iv a2)) = w1 at HAT HRD hg ⊢
  clear hat hrd HR HYT HH HLS HY c1 f1 ha2 y
  go_loopw [1] (fun vv wr => ∃ q : Nat, p ≤ q ∧ q ≤ T.length ∧ Hid (AtS wr hb s T q a2) ∧ Hid (RdX hb wr vv (T.drop q)) ∧ w.grownBy wr (some hb))
    (fun vv _ => match vv with | .slice _ n _ => n | _ => 0)
  case atStart => exact ⟨p, Nat.le_refl _, hp, HAT, HRD, hg⟩
  case round =>
    clear HAT HRD hg hvc
    obtain ⟨q, hpq, hq, hAt, hRd, hg⟩ := hrel
    have HR2 := hid hRd.out
    obtain ⟨ra, rc, rfl, hrc, hrx⟩ := hRd.out
    have hdl : (T.drop q).length = T.length - q := by simp
    rw [hdl] at hrc HR2 hrx ⊢
    have HX := hid hrx
    clear hdl hrx hRd
    by_cases hlt : q < T.length
    · obtain ⟨g, off, rfl, hgb, hgl, hcell⟩ := HX.out (by intro e; have := congrArg List.length e; simp at this; omega)
      have HCELL := hid hcell
      obtain ⟨y, hy, hH, hyt⟩ := hAt.out
      have ls := hid ((stS_len s T q).trans HS.out)
      have HH := hid hH
      have HY := hid hy
      have HYT := hid hyt
      have hbl2 := hH.lt
      have c1 := hH.cellN ls.out hy
      have f1 := hH.free
      have hr0 : q % 128 < 128 := Nat.mod_lt _ (by omega)
      obtain ⟨r, hr⟩ : ∃ r, r = q % 128 := ⟨_, rfl⟩
      rw [← hr] at c1 hr0 HH HYT
      have HRR := hid hr
      clear hcell hAt hy hH hyt hr HX
      go_wp2_with fail
      have hsl := slRest hb r hr0
      (refine wp_region_ext_tail 9 (by kernel_rfl) (by kernel_rfl) ?_; simp only [List.take_succ_cons, List.take_zero, List.drop_succ_cons, List.drop_zero]; (repeat (go_big_quiet_step (first | fail))); refine wpQuiet_nil ?_; rintro _ ⟨xw, rfl⟩)
      have hX : HasS (wr.ext xw) hb (stS s T q) y r a2 := HH.out.below (wr.ext_below xw) hbl2
      obtain ⟨m, hm⟩ : ∃ m, m = Nat.min (T.length - q) (128 - r) := ⟨_, rfl⟩
      have hm1 : m ≤ T.length - q := by rw [hm]; exact Nat.min_le_left _ _
      have hm2 : m ≤ 128 - r := by rw [hm]; exact Nat.min_le_right _ _
      have hm3 : m = T.length - q ∨ m = 128 - r := by
        rw [hm]; rcases Nat.le_total (T.length - q) (128 - r) with h | h
        · exact .inl (Nat.min_eq_left h)
        · exact .inr (Nat.min_eq_right h)
      have hzl : ((T.drop q).take m).length = m := by simp; omega
      have hcl : (((T.drop q).take m).map fun x => Value.int .u8 (yv x)).length = m := by rw [List.length_map, hzl]
      refine wpList_copy_row rfl (.tmp 27) (.tmp 28) 22 22 rfl 5 hb (8 + r) (128 - r) (128 - r) rfl ⟨g, off, none⟩ (T.length - q) rc rfl _ _ (((T.drop q).take m).map fun x => Value.int .u8 (yv x)) uSY2 sY1 hX (by rw [hcl, hm]) ?_ (by rw [hcl, shaC_size _ _ _ _ ls.out HY.out]; omega) ?_ ?_
      · intro j u hu
        have hj : j < m := by
          rcases Nat.lt_or_ge j m with h | h
          · exact h
          · rw [List.getElem?_eq_none (by rw [hcl]; exact h)] at hu; cases hu
        have h1 := HCELL.out j (by omega)
        have h2 : (wr.ext xw).cell? ⟨g, off + j, none⟩ = wr.cell? ⟨g, off + j, none⟩ := wr.cell?_ext xw g _ hgl
        rw [show (⟨g, off, none⟩ : Addr).add j = ⟨g, off + j, none⟩ from by unfold Addr.add; split <;> simp_all, h2, h1, ← hu]
        simp [ny, hj, List.getElem?_take, List.getD_eq_getElem?_getD, show q + j < T.length by omega]
      · intro u hu
        obtain ⟨x, _, rfl⟩ := List.mem_map.1 hu
        rfl
      rw [hcl, shaC_part _ _ _ _ _ _ ls.out HY.out (by rw [hzl]; omega), hzl]
      have hY2 : (y.take r ++ (T.drop q).take m ++ y.drop (r + m)).length = 128 := by
        have := HY.out
        simp; omega
      have hT2 : (y.take r ++ (T.drop q).take m ++ y.drop (r + m)).take (r + m) = (T.drop (128 * (q / 128))).take (r + m) := by
        have h7 := HYT.out
        rw [HRR.out] at h7 hm2 ⊢
        exact buf_more y T q m HY.out (by omega) (by omega) h7
      have hX2 : HasS ((wr.ext xw).setRow hb (shaC (stS s T q) (y.take r ++ (T.drop q).take m ++ y.drop (r + m)) r a2)) hb (stS s T q) (y.take r ++ (T.drop q).take m ++ y.drop (r + m)) r a2 := heap_setRow _ _ _ _ _ hX
      have hg2 : w.grownBy ((wr.ext xw).setRow hb (shaC (stS s T q) (y.take r ++ (T.drop q).take m ++ y.drop (r + m)) r a2)) (some hb) := grownBy_setRow (grownBy_ext hg xw) (.inl rfl) _
      have hgR : wr.grownBy ((wr.ext xw).setRow hb (shaC (stS s T q) (y.take r ++ (T.drop q).take m ++ y.drop (r + m)) r a2)) (some hb) := grownBy_setRow (grownBy_ext (grownBy_refl _ _) xw) (.inl rfl) _
      have hR3 := HR2.out.kept hgR
      generalize (wr.ext xw).setRow hb (shaC (stS s T q) (y.take r ++ (T.drop q).take m ++ y.drop (r + m)) r a2) = w3 at hX2 hg2 hR3 ⊢
      obtain ⟨y2, hy2⟩ : ∃ y2, y2 = y.take r ++ (T.drop q).take m ++ y.drop (r + m) := ⟨_, rfl⟩
      rw [← hy2] at hX2 hY2 hT2
      clear hy2 hX hgR hcl hzl hg HR2 HCELL hsl c1 f1
      have HX2 := hid hX2
      have HY2 := hid hY2
      have HT2 := hid hT2
      have HR3 := hid hR3
      have c1 := hX2.cellN ls.out hY2
      have f1 := hX2.free
      have l1 := hX2.lt
      clear hX2 hY2 hT2 hR3 hm hgb hgl
      simp only [goInt]
      have hqm : (T.drop q).drop m = T.drop (q + m) := List.drop_drop ..
      have HQM := hid hqm
      clear hqm
      by_cases hcm : rc = m
      all_goals
        have hdr : ∀ W, RdX hb W (.slice (some ⟨g, off, none⟩) (T.length - q) rc) (T.drop q) → RdX hb W (.slice (some ⟨g, if rc = m then off else off + m, none⟩) (T.length - q - m) (if rc = m then 0 else rc - m)) (T.drop (q + m)) := fun W h => by
          rw [← HQM.out, show (if rc = m then 0 else rc - m) = rc - m from by split <;> omega]; exact h.drop hm1 (fun h => by rw [if_neg (by omega)])
        first | simp only [if_pos hcm] at hdr | simp only [if_neg hcm] at hdr
        have HDR := hid hdr
        clear hdr
        by_cases hfull : r + m = 128
        · have hv : ((r : Int) + (m : Int)) = ((128 : Nat) : Int) := by omega
          have hB : HasS (w3.setCell ⟨hb, 136, none⟩ (.int .i64 ((r : Int) + (m : Int)))) hb (stS s T q) y2 128 a2 := HasS.put HX2.out 136 _ (by rw [hv]; exact shaC_setN _ _ _ _ _ ls.out HY2.out)
          have hgB := hid (grownBy_setCell (grownBy_refl w3 (some hb)) (p := ⟨hb, 136, none⟩) (.inl rfl) (.int .i64 ((r : Int) + (m : Int))))
          have HB := hid hB
          have HV := hid hv
          clear hv hB
          go_wp2_with (go_at_call 76; (with_reducible refine (block_any _ _ _ _ _ _ ls.out HY2.out HB.out).mono ?_); rintro e w4 ⟨rfl, hH4, hg4⟩)
          have hgw := grownBy_trans hgB.out hg4
          have hq1 : (q + m) / 128 = q / 128 + 1 := by have := HRR.out; omega
          have hq2 : (q + m) % 128 = 0 := by have := HRR.out; omega
          have hch : y2 = chunkS T (q / 128) := by
            have h8 := HT2.out
            rw [hfull, List.take_of_length_le (by rw [HY2.out]; exact Nat.le_refl _)] at h8
            exact h8
          have hst : stS s T (q + m) = blockL (stS s T q) y2 := by unfold stS; rw [hq1, hch]; rfl
          go_roundw
          case rel =>
            refine ⟨q + m, by omega, by omega, hid ⟨y2, HY2.out, ?_, ?_⟩, hid (HDR.out _ (HR3.out.kept hgw)), grownBy_trans hg2 hgw⟩
            · rw [hst, hq2]; exact hH4
            · rw [hq2]; simp
          case measure => simp; omega
        · have hv : ((r : Int) + (m : Int)) = ((r + m : Nat) : Int) := by omega
          have hB : HasS (w3.setCell ⟨hb, 136, none⟩ (.int .i64 ((r : Int) + (m : Int)))) hb (stS s T q) y2 (r + m) a2 := HasS.put HX2.out 136 _ (by rw [hv]; exact shaC_setN _ _ _ _ _ ls.out HY2.out)
          have hgB := grownBy_setCell (grownBy_refl w3 (some hb)) (p := ⟨hb, 136, none⟩) (.inl rfl) (.int .i64 ((r : Int) + (m : Int)))
          have HB := hid hB
          have HGB := hid hgB
          have hne : ¬ ((r : Int) + (m : Int) = 128) := by omega
          clear hB hv hgB
          go_wp2
          have hq1 : (q + m) / 128 = q / 128 := by have := HRR.out; omega
          have hq2 : (q + m) % 128 = r + m := by have := HRR.out; omega
          have hst : stS s T (q + m) = stS s T q := by unfold stS; rw [hq1]
          go_roundw
          case rel =>
            refine ⟨q + m, by omega, by omega, hid ⟨y2, HY2.out, ?_, ?_⟩, hid (HDR.out _ (HR3.out.kept HGB.out)), grownBy_trans hg2 HGB.out⟩
            · rw [hst, hq2]; exact HB.out
            · rw [hq2, hq1]; exact HT2.out
          case measure => simp; omega
    · obtain rfl : q = T.length := by omega
      have e0 : T.length - T.length = 0 := by omega
      rw [e0] at *
      go_wp2
      go_end0
      exact ⟨rfl, by rw [← HA2.out]; exact hAt.out, hg⟩
end Go.Proofs.Ytejnnghfelpioaa
