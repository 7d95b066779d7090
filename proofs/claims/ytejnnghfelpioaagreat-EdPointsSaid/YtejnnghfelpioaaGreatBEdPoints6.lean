import Derived.Laws.StructEq
import Derived.Test.YtejnnghfelpioaaGreatBEdPoints5
set_option maxRecDepth 4000
set_option linter.unusedVariables false
set_option linter.unusedSimpArgs false
namespace Go.Proofs.YtejnnghfelpioaaGreat
open Go.RowKit Go.Shelf
attribute [local go_sem] Oper.semAt_some
theorem iIn1 : (Tryz.prog.info? 3).map (·.size) = some 1 := by kernel_rfl
theorem oIn : oneT Tryz.prog 3 = true := by kernel_rfl
def bstep (x y : Nat) (p q s o : W4) (k c : Nat) : W4 :=
  if dbit x k = true then (if dbit y c = true then plusW (twiceW o) s else plusW (twiceW o) p) else (if dbit y c = true then plusW (twiceW o) q else twiceW o)
theorem bstep_t (x y : Nat) (p q s o : W4) (k c : Nat) (hp : TW p) (hq : TW q) (hs : TW s) (ho : TW o) : TW (bstep x y p q s o k c) := by
  unfold bstep
  split
  · split
    · exact plusW_t _ _ (twiceW_t _ ho) hs
    · exact plusW_t _ _ (twiceW_t _ ho) hp
  · split
    · exact plusW_t _ _ (twiceW_t _ ho) hq
    · exact twiceW_t _ ho
def bfold (x y : Nat) (p q s : W4) (l : List Nat) : W4 × Nat := l.foldl (fun st k => (bstep x y p q s st.1 k st.2, st.2 + 1)) (noneW, 0)
theorem bfold_snoc (x y : Nat) (p q s : W4) (l : List Nat) (k : Nat) : bfold x y p q s (l ++ [k]) = (bstep x y p q s (bfold x y p q s l).1 k (bfold x y p q s l).2, (bfold x y p q s l).2 + 1) := by
  unfold bfold; rw [List.foldl_append]; rfl
theorem bfold_len0 (x y : Nat) (p q s : W4) : ∀ (l : List Nat) (st : W4 × Nat), (l.foldl (fun st k => (bstep x y p q s st.1 k st.2, st.2 + 1)) st).2 = st.2 + l.length
  | [], st => rfl
  | k :: l, st => by rw [List.foldl_cons, bfold_len0 x y p q s l, List.length_cons]; simp only; omega
theorem bfold_len (x y : Nat) (p q s : W4) (l : List Nat) : (bfold x y p q s l).2 = l.length := by unfold bfold; rw [bfold_len0]; simp
theorem bfold_t0 (x y : Nat) (p q s : W4) (hp : TW p) (hq : TW q) (hs : TW s) : ∀ (l : List Nat) (st : W4 × Nat), TW st.1 → TW (l.foldl (fun st k => (bstep x y p q s st.1 k st.2, st.2 + 1)) st).1
  | [], st, h => h
  | k :: l, st, h => by rw [List.foldl_cons]; exact bfold_t0 x y p q s hp hq hs l _ (bstep_t _ _ _ _ _ _ _ _ hp hq hs h)
theorem bfold_t (x y : Nat) (p q s : W4) (hp : TW p) (hq : TW q) (hs : TW s) (l : List Nat) : TW (bfold x y p q s l).1 := bfold_t0 x y p q s hp hq hs l _ noneW_t
def bothW (x : Nat) (p : W4) (y : Nat) (q : W4) : W4 := (bfold x y p q (plusW p q) (List.range 256)).1
theorem bothW_t (x : Nat) (p : W4) (y : Nat) (q : W4) (hp : TW p) (hq : TW q) : TW (bothW x p y q) := bfold_t _ _ _ _ _ hp hq (plusW_t _ _ hp hq) _
set_option maxRecDepth 100000 in
set_option maxHeartbeats 16000000 in
theorem bothW_any (x : Nat) (p : W4) (y : Nat) (q : W4) (w : World) (hp : TW p) (hq : TW q) : Calls Tryz.prog 56 #[wd x, w4 p, wd y, w4 q] w fun e w' => e = .returned (w4 (bothW x p y q)) ∧ Below w.heap.size w w' := by
  have hN := hid fun w => none_any w
  have hD := hid fun w => edown_any x w
  have hS := hid fun w => plusW_any p q w hp hq
  have hTS := plusW_t p q hp hq
  have hres : bothW x p y q = (bfold x y p q (plusW p q) (List.range 256)).1 := rfl
  rw [hres]
  obtain ⟨s, hs⟩ : ∃ s, s = plusW p q := ⟨_, rfl⟩
  rw [← hs] at hS hTS ⊢
  have hT := hid fun o w (h : TW o) => twiceW_any o w h
  have hP1 := hid fun o w (h : TW o) => plusW_any o p w h hp
  have hP2 := hid fun o w (h : TW o) => plusW_any o q w h hq
  have hP3 := hid fun o w (h : TW o) => plusW_any o s w h hTS
  have hM := hid (bfold_t x y p q s hp hq hTS)
  clear hs hp hq hTS hres
  obtain ⟨w0, hw0, k4, k5, k6, k7, k8, hb0⟩ := entry5 w 24 (cellsW x) 89 (cells4 p) 24 (cellsW y) 89 (cells4 q) 89 (cells4 zero4)
  have hX0 := hid k4
  have hP0 := hid k5
  have hY0 := hid k6
  have hQ0 := hid k7
  have hR0 := hid k8
  clear k4 k5 k6 k7 k8
  unfold w4 wd at *
  refine (callsIn_wide (n := 3)).1 (callsIn_of_wp_marks Tryz.func56 rfl trivial (wpIn_wide.2 ?_) rfl)
  simp only [Tryz.ntmps56, List.size_toArray, List.length_cons, List.length_nil, Nat.reduceAdd, Nat.reduceSub, Array.replicate_succ, Array.replicate_zero, List.push_toArray, List.append_toArray, List.nil_append, List.cons_append]
  (repeat ((fail_if_success (with_reducible refine Go.at_region ?_)); go_step))
  refine wp_region_lit ?_
  (refine wpList_box 24 (.tmp 0) rfl rfl (cellsW x) rfl ?_; simp only [Act.put, pvA, pv0, pv1]; (try simp only [World.size_alloc]))
  (refine wpList_box 89 (.tmp 1) rfl rfl (cells4 p) rfl ?_; simp only [Act.put, pvA, pv0, pv1]; (try simp only [World.size_alloc]))
  (refine wpList_box 24 (.tmp 2) rfl rfl (cellsW y) rfl ?_; simp only [Act.put, pvA, pv0, pv1]; (try simp only [World.size_alloc]))
  (refine wpList_box 89 (.tmp 3) rfl rfl (cells4 q) rfl ?_; simp only [Act.put, pvA, pv0, pv1]; (try simp only [World.size_alloc]))
  (refine wpList_alloc_new rfl 89 rfl (cells4 zero4) z4 ?_; simp only [Act.put, pvA, pv0, pv1]; (try simp only [World.size_alloc]))
  refine wpList_nil ?_
  rw [← hw0]
  clear hw0
  go_wp2_with (first | (refine wpList_get 89 (.tmp 5) rfl rfl (w.heap.size + 1) rfl 89 (cells4 p) hP0.out g4 (i4 p) ?_; simp only [Act.put, pvA, pv0, pv1]) | (refine wpList_get 89 (.tmp 7) rfl rfl (w.heap.size + 1 + 1 + 1) rfl 89 (cells4 q) hQ0.out g4 (i4 q) ?_; simp only [Act.put, pvA, pv0, pv1]))
  refine (hS.out _).mono ?_
  rintro e w1 ⟨rfl, hs1⟩
  have hX1 := hid ((hX0.out.step hs1).alloc (.cells (cells4 s) 89))
  have hP1 := hid ((hP0.out.step hs1).alloc (.cells (cells4 s) 89))
  have hY1 := hid ((hY0.out.step hs1).alloc (.cells (cells4 s) 89))
  have hQ1 := hid ((hQ0.out.step hs1).alloc (.cells (cells4 s) 89))
  have hR1 := hid ((hR0.out.step hs1).alloc (.cells (cells4 s) 89))
  have hS1 := hid (Blk.new 89 w1 (cells4 s))
  have hc1 := hb0.trans (hs1.mono hb0.size)
  have hb1 := hc1.alloc hc1.size (.cells (cells4 s) 89)
  have hlt1 := (hR0.out.step hs1).lt
  obtain ⟨G9, hG9⟩ : ∃ G, G = w1.heap.size := ⟨_, rfl⟩
  have HG9 := hid hG9
  rw [← hG9] at hlt1
  clear hX0 hP0 hY0 hQ0 hR0 hb0 hs1 hc1 hG9
  go_wp2_with (refine wpList_allocStore 89 16 9 (cells4 s) (cells4 zero4) rfl rfl rfl rfl rfl rfl (by decide) (by simp) rfl (by kernel_rfl) rfl (i4 _) (one_cells4 _) ?_; simp only [Act.put, pvA, pv0, pv1])
  rw [← HG9.out] at hS1 ⊢
  generalize w1.alloc (.cells (cells4 s) 89) = w2 at hX1 hP1 hY1 hQ1 hR1 hS1 hb1 ⊢
  refine (hN.out _).mono ?_
  rintro e w3 ⟨rfl, hs3⟩
  have hX3 := hid (((hX1.out.step hs3).alloc (.cells (cells4 noneW) 89)).alloc (.cells #[.int .i64 255] 3))
  have hP3 := hid (((hP1.out.step hs3).alloc (.cells (cells4 noneW) 89)).alloc (.cells #[.int .i64 255] 3))
  have hY3 := hid (((hY1.out.step hs3).alloc (.cells (cells4 noneW) 89)).alloc (.cells #[.int .i64 255] 3))
  have hQ3 := hid (((hQ1.out.step hs3).alloc (.cells (cells4 noneW) 89)).alloc (.cells #[.int .i64 255] 3))
  have hR3 := hid (((hR1.out.step hs3).alloc (.cells (cells4 noneW) 89)).alloc (.cells #[.int .i64 255] 3))
  have hS3 := hid (((hS1.out.step hs3).alloc (.cells (cells4 noneW) 89)).alloc (.cells #[.int .i64 255] 3))
  have hO3 := hid ((Blk.new 89 w3 (cells4 noneW)).alloc (.cells #[.int .i64 255] 3))
  have hI3 := Blk.new 3 (w3.alloc (.cells (cells4 noneW) 89)) #[.int .i64 255]
  simp only [World.size_alloc] at hI3
  have hc3 := hb1.trans (hs3.mono hb1.size)
  have hb3 := (hc3.alloc hc3.size (.cells (cells4 noneW) 89)).alloc (by rw [World.size_alloc]; have := hc3.size; omega) (.cells #[.int .i64 255] 3)
  have hlt3 := (hS1.out.step hs3).lt
  obtain ⟨G, hG⟩ : ∃ G, G = w3.heap.size := ⟨_, rfl⟩
  have HG := hid hG
  rw [← hG] at hlt3 hI3
  have hI4 := hid hI3
  clear hX1 hP1 hY1 hQ1 hR1 hS1 hb1 hs3 hc3 hG hI3 HG9
  go_wp2_with (first | (refine wpList_allocStore 89 17 10 (cells4 noneW) (cells4 zero4) rfl rfl rfl rfl rfl rfl (by decide) (by simp) rfl (by kernel_rfl) rfl (i4 _) (one_cells4 _) ?_; simp only [Act.put, pvA, pv0, pv1]) | (refine wpList_get 24 (.tmp 4) rfl rfl w.heap.size rfl 24 (cellsW x) hX3.out gWd (iW x) ?_; simp only [Act.put, pvA, pv0, pv1]))
  (try simp only [World.size_alloc])
  rw [← HG.out] at hO3 ⊢
  generalize (w3.alloc (.cells (cells4 noneW) 89)).alloc (.cells #[.int .i64 255] 3) = w4 at hX3 hP3 hY3 hQ3 hR3 hS3 hO3 hI4 hb3 ⊢
  clear HG
  refine (hD.out _).mono ?_
  rintro e w5 ⟨rfl, hs5, hB5⟩
  have hX5 := hid (hX3.out.step hs5)
  have hP5 := hid (hP3.out.step hs5)
  have hY5 := hid (hY3.out.step hs5)
  have hQ5 := hid (hQ3.out.step hs5)
  have hR5 := hid (hR3.out.step hs5)
  have hS5 := hid (hS3.out.step hs5)
  have hO5 := hid (hO3.out.step hs5)
  have hI5 := hid (hI4.out.step hs5)
  have hb5 := hb3.trans (hs5.mono hb3.size)
  have hG5 := hI4.out.lt
  have hB := hid hB5
  have hBl := hB5.lt
  obtain ⟨B, hBB⟩ : ∃ B, B = w4.heap.size := ⟨_, rfl⟩
  rw [← hBB] at hB hBl hG5 ⊢
  clear hX3 hP3 hY3 hQ3 hR3 hS3 hO3 hI4 hb3 hs5 hB5 hBB hX5
  go_wp2
  refine (wpIn_wide (n := 3)).1 (wpIn_rangeFunc_ownG rfl (by omega) (gf := 132) (lb := #[.pointer (some ⟨B, 0, none⟩)]) rfl trivial (enters_of Tryz.func132 (by kernel_rfl) rfl)
    (down_stops 2 x B w5 (by omega) hB.out) (fun h k => k.trans h) ?hKb (Below.refl _ _) (fun _ => rfl)
    (fun pre W => Hid (w5.two W G (G + 1) ∧ Blk 89 W G (cells4 (bfold x y p q s (pre.map Fin.val)).1) ∧ Blk 3 W (G + 1) #[.int .i64 (255 - ((bfold x y p q s (pre.map Fin.val)).2 : Int))])) (fun _ _ _ => False) ?hI (fun _ _ _ _ _ hs _ _ => hs) ?h0
    (fun k => { tmps := #[.agg (cellsW x), .agg (cells4 p), .agg (cellsW y), .agg (cells4 q), .pointer (some ⟨w.heap.size, 0, none⟩), .pointer (some ⟨w.heap.size + 1, 0, none⟩), .pointer (some ⟨w.heap.size + 1 + 1, 0, none⟩), .pointer (some ⟨w.heap.size + 1 + 1 + 1, 0, none⟩), .pointer (some ⟨w.heap.size + 1 + 1 + 1 + 1, 0, none⟩), .pointer (some ⟨G9, 0, none⟩), .pointer (some ⟨G, 0, none⟩), .pointer (some ⟨G + 1, 0, none⟩), .bool (dbit x k.val), undef, .agg (cells4 p), .agg (cells4 q), .agg (cells4 s), .agg (cells4 noneW), .agg (cellsW x), seqD B, .bool (dbit x k.val), undef, undef, undef, undef, undef, undef, undef, undef, undef, undef, undef, undef, undef, undef, undef, undef, undef, undef, undef, undef, undef, undef, undef, undef, undef, undef, undef, undef, undef, undef, undef, undef], defers := [] }) ?assign ?body ?done ?stop)
  case assign =>
    intro l k W K hK
    gi_wp2
    exact hK
  case hKb =>
    intro W l o o' hl _ _ _
    exact World.putObj_heap_other (by omega)
  case hI =>
    intro pre W W' row hs hg hr
    obtain ⟨h1, h2, h3⟩ := hs.out
    have hrow : ∀ j, row = some j → w5.heap.size ≤ j := fun j e => (hr j e).1
    exact hid ⟨h1.grown hg hrow, h2.grown hg (fun e => by have := hrow _ e.symm; omega), h3.grown hg (fun e => by have := hrow _ e.symm; omega)⟩
  case h0 => exact hid ⟨World.two.refl _ _ _, hO5.out, hI5.out⟩
  case stop => intro D c pre W _ _ h; exact h.elim
  case body =>
    intro l pre k W hI hlen
    obtain ⟨hg, hW, hJ⟩ := hI.out
    have hTo := hM.out (pre.map Fin.val)
    have hNx := bfold_snoc x y p q s (pre.map Fin.val) k.val
    have hcl := bfold_len x y p q s (pre.map Fin.val)
    rw [List.length_map] at hcl
    have hmp : (pre ++ [k]).map Fin.val = pre.map Fin.val ++ [k.val] := by rw [List.map_append]; rfl
    obtain ⟨o, ho⟩ : ∃ o, o = (bfold x y p q s (pre.map Fin.val)).1 := ⟨_, rfl⟩
    obtain ⟨c, hc⟩ : ∃ c, c = (bfold x y p q s (pre.map Fin.val)).2 := ⟨_, rfl⟩
    rw [← ho] at hW hTo hNx
    rw [← hc] at hJ hNx hcl
    rw [← hmp] at hNx
    obtain ⟨j, hj⟩ : ∃ j, j = 255 - c := ⟨_, rfl⟩
    have hji : (255 : Int) - (c : Int) = (j : Int) := by omega
    rw [hji] at hJ
    have hnext : (255 : Int) - ((c + 1 : Nat) : Int) = (j : Int) - 1 := by omega
    have hT1 := hid fun w => hT.out o w hTo
    have hTt := twiceW_t o hTo
    have hA1 := hid fun w => hP1.out (twiceW o) w hTt
    have hA2 := hid fun w => hP2.out (twiceW o) w hTt
    have hA3 := hid fun w => hP3.out (twiceW o) w hTt
    unfold bstep at hNx
    obtain ⟨b, hb⟩ : ∃ b, b = dbit x k.val := ⟨_, rfl⟩
    rw [← hb] at hNx ⊢
    rw [show dbit y c = decide (y / 2 ^ j % 2 = 1) by unfold dbit; rw [hj]] at hNx
    obtain ⟨t, ht⟩ : ∃ t, t = twiceW o := ⟨_, rfl⟩
    rw [← ht] at hT1 hA1 hA2 hA3 hNx
    have hbit := lm_bit y j
    have hj255 : j ≤ 255 := by omega
    have hj255i : (j : Int) ≤ 255 := by omega
    have HNX := hid hnext
    have qs : IntKind.i64.wrap ((j : Int) - 1) = (j : Int) - 1 := by rw [IntKind.wrap_i64]; omega
    have qt : (j : Int).tmod 64 = ((j % 64 : Nat) : Int) := by rw [Int.tmod_eq_emod_of_nonneg (by omega)]; omega
    have qm : min (j % 64) 64 = j % 64 := by omega
    have qf : (lm y (j / 64)).fdiv (2 ^ (j % 64)) = lm y (j / 64) / 2 ^ (j % 64) := Int.fdiv_eq_ediv_of_nonneg _ (Int.le_of_lt (Int.pow_pos (by omega)))
    have qw1 : IntKind.i64.wrap ((j : Int) / 64) = (j : Int) / 64 := by rw [IntKind.wrap_i64]; omega
    have qw2 : IntKind.i64.wrap ((j : Int) % 64) = (j : Int) % 64 := by rw [IntKind.wrap_i64]; omega
    have qn1 : ((j : Int) / 64).toNat = j / 64 := by omega
    have qn2 : ((j : Int) % 64).toNat = j % 64 := by omega
    have qp1 : (0 : Int) ≤ (j : Int) / 64 := by omega
    have qp2 : (0 : Int) ≤ (j : Int) % 64 := by omega
    have ql1 : (j : Int) / 64 < 4 := by omega
    have ql2 : (j : Int) % 64 < 64 := by omega
    clear hTo hTt ho hc hcl hj hji hnext hb ht hI hmp hlen
    have hPW := hid (hP5.out.two hg (by omega) (by omega))
    have hYW := hid (hY5.out.two hg (by omega) (by omega))
    have hQW := hid (hQ5.out.two hg (by omega) (by omega))
    have hSW := hid (hS5.out.two hg (by omega) (by omega))
    have hOW := hid hW
    have hJW := hid hJ
    have hg0 := hg
    clear hW hJ hg
    refine wpIn_block ?_
    (repeat ((fail_if_success (with_reducible refine Go.at_regionIn ?_)); gi_step))
    refine wpIn_calm 2 (by rintro ⟨_, _, h⟩; exact h) (by kernel_rfl) ?_
    simp only [List.take_succ_cons, List.take_zero]
    (refine calm_whole rfl 89 (.tmp 10) rfl G rfl 89 (cells4 o) hOW.out g4 (i4 o) ?_; simp only [Act.put, pvA, pv0, pv1])
    (apply calm_on rfl; (focus (intro W hB; go_simp; refine (hT1.out W).mono ?_; rintro _ _ ⟨rfl, hb'⟩; exact ⟨rfl, hb'⟩)); simp only [Act.put, pvA, pv0, pv1])
    refine calm_nil ?_
    intro Wx hx
    simp only [List.drop_succ_cons, List.drop_zero]
    refine wpList_set 89 (.tmp 10) (.tmp 22) rfl rfl rfl G (cells4 t) rfl rfl 89 (cells4 o) (hOW.out.step hx) (i4 t) rfl (one_cells4 t) ?_
    refine wpList_nil ?_
    have hg1 := (hg0.trans (World.two.of_below hx G (G + 1))).setG (cells4 t)
    have hr1 := (World.two.of_below hx G (G + 1)).setG (cells4 t)
    have hO1 := hid ((hOW.out.step hx).set (cells4 t))
    have hJ1 := hid ((hJW.out.step hx).other (show G + 1 ≠ G by omega) (cells4 t))
    have hP1x := hid ((hPW.out.step hx).other (show w.heap.size + 1 ≠ G by omega) (cells4 t))
    have hY1 := hid ((hYW.out.step hx).other (show w.heap.size + 1 + 1 ≠ G by omega) (cells4 t))
    have hQ1x := hid ((hQW.out.step hx).other (show w.heap.size + 1 + 1 + 1 ≠ G by omega) (cells4 t))
    have hS1x := hid ((hSW.out.step hx).other (show G9 ≠ G by omega) (cells4 t))
    obtain ⟨W1, hW1⟩ : ∃ z, z = Wx.setRow G (cells4 t) := ⟨_, rfl⟩
    rw [← hW1] at hg1 hr1 hO1 hJ1 hP1x hY1 hQ1x hS1x ⊢
    clear hW1 hx hOW hJW hPW hYW hQW hSW hT1
    rcases (show y / 2 ^ j % 2 = 0 ∨ y / 2 ^ j % 2 = 1 by omega) with hb2 | hb2
    · rw [hb2] at hbit hNx
      clear hb2
      (repeat ((fail_if_success (with_reducible refine Go.at_regionIn ?_)); gi_step))
      refine wpIn_draw_all (by rintro ⟨_, _, h⟩; exact h) (by kernel_rfl) (by kernel_rfl) (by kernel_rfl) (by kernel_rfl) ?_
      (refine calm_cell rfl 3 (.tmp 11) rfl (G + 1) 0 rfl 3 #[.int .i64 (j : Int)] hJ1.out (.int .i64 (j : Int)) rfl oIn ?_; simp only [Act.put, pvA, pv0, pv1])
      iterate 2 (apply calm_on rfl; (focus (intro W hB; go_simp; exact ⟨rfl, Below.refl _ _⟩)); simp only [Act.put, pvA, pv0, pv1])
      (refine calm_cell rfl 22 (.tmp 25) rfl (w.heap.size + 1 + 1) (j / 64) rfl 24 (cellsW y) hY1.out (.int .u64 (lm y (j / 64))) (cellsW_at y _ (by omega)) o64 ?_; simp only [Act.put, pvA, pv0, pv1])
      (refine calm_cell rfl 3 (.tmp 11) rfl (G + 1) 0 rfl 3 #[.int .i64 (j : Int)] hJ1.out (.int .i64 (j : Int)) rfl oIn ?_; simp only [Act.put, pvA, pv0, pv1])
      iterate 5 (apply calm_on rfl; (focus (intro W hB; go_simp; exact ⟨rfl, Below.refl _ _⟩)); simp only [Act.put, pvA, pv0, pv1])
      refine calm_nil ?_
      intro W2 h2
      (try dsimp only)
      have hP2 := hid (hP1x.out.step h2)
      have hQ2 := hid (hQ1x.out.step h2)
      have hS2 := hid (hS1x.out.step h2)
      have hO2 := hid (hO1.out.step h2)
      have hJ2 := hid (hJ1.out.step h2)
      have hr2 := hr1.trans (World.two.of_below h2 G (G + 1))
      (repeat ((fail_if_success (with_reducible refine Go.at_regionIn ?_)); gi_step))
      refine wpIn_calm 2 (by rintro ⟨_, _, h⟩; exact h) (by kernel_rfl) ?_
      simp only [List.take_succ_cons, List.take_zero]
      (refine calm_cell rfl 3 (.tmp 11) rfl (G + 1) 0 rfl 3 #[.int .i64 (j : Int)] hJ2.out (.int .i64 (j : Int)) rfl oIn ?_; simp only [Act.put, pvA, pv0, pv1])
      (apply calm_on rfl; (focus (intro W hB; go_simp; exact ⟨rfl, Below.refl _ _⟩)); simp only [Act.put, pvA, pv0, pv1])
      refine calm_nil ?_
      intro Wy hy
      simp only [List.drop_succ_cons, List.drop_zero]
      refine wpList_put 3 (.tmp 11) (.tmp 33) rfl rfl rfl (G + 1) .i64 ((j : Int) - 1) rfl rfl 3 _ (hJ2.out.step hy) iIn1 ?_
      refine wpList_nil ?_
      have hP3 := hid ((hP2.out.step hy).other (show w.heap.size + 1 ≠ G + 1 by omega) #[.int .i64 ((j : Int) - 1)])
      have hQ3 := hid ((hQ2.out.step hy).other (show w.heap.size + 1 + 1 + 1 ≠ G + 1 by omega) #[.int .i64 ((j : Int) - 1)])
      have hS3 := hid ((hS2.out.step hy).other (show G9 ≠ G + 1 by omega) #[.int .i64 ((j : Int) - 1)])
      have hO3 := hid ((hO2.out.step hy).other (show G ≠ G + 1 by omega) #[.int .i64 ((j : Int) - 1)])
      have hJ3 := hid ((hJ2.out.step hy).set #[.int .i64 ((j : Int) - 1)])
      have hr3 := (hr2.trans (World.two.of_below hy G (G + 1))).setH #[.int .i64 ((j : Int) - 1)]
      obtain ⟨W3, hW3⟩ : ∃ z, z = Wy.setRow (G + 1) #[.int .i64 ((j : Int) - 1)] := ⟨_, rfl⟩
      rw [← hW3] at hP3 hQ3 hS3 hO3 hJ3 hr3 ⊢
      clear hW3 hy h2 hP2 hQ2 hS2 hO2 hJ2 hr2
      cases b
      · rw [if_neg (by decide), if_neg (by decide)] at hNx
        have HN := hid hNx
        clear hNx
        (repeat ((fail_if_success (with_reducible refine Go.at_regionIn ?_)); gi_step))
        refine wpIn_calm 5 (by rintro ⟨_, _, h⟩; exact h) (by kernel_rfl) ?_
        simp only [List.take_succ_cons, List.take_zero]
        iterate 2 (apply calm_on rfl; (focus (intro W hB; go_simp; exact ⟨rfl, Below.refl _ _⟩)); simp only [Act.put, pvA, pv0, pv1])
        (refine calm_off rfl ?_; simp only [Act.put, pvA, pv0, pv1])
        iterate 2 (apply calm_on rfl; (focus (intro W hB; go_simp; exact ⟨rfl, Below.refl _ _⟩)); simp only [Act.put, pvA, pv0, pv1])
        refine calm_nil ?_
        intro W4 h4
        simp only [List.drop_succ_cons, List.drop_zero]
        refine wpList_nil ?_
        have hP4 := hid (hP3.out.step h4)
        have hQ4 := hid (hQ3.out.step h4)
        have hS4 := hid (hS3.out.step h4)
        have hO4 := hid (hO3.out.step h4)
        have hJ4 := hid (hJ3.out.step h4)
        have hr4 := hr3.trans (World.two.of_below h4 G (G + 1))
        (repeat ((fail_if_success (with_reducible refine Go.at_regionIn ?_)); gi_step))
        refine wpIn_calm 2 (by rintro ⟨_, _, h⟩; exact h) (by kernel_rfl) ?_
        simp only [List.take_succ_cons, List.take_zero]
        iterate 2 (apply calm_on rfl; (focus (intro W hB; go_simp; exact ⟨rfl, Below.refl _ _⟩)); simp only [Act.put, pvA, pv0, pv1])
        refine calm_nil ?_
        intro W5 h5
        simp only [List.drop_succ_cons, List.drop_zero]
        refine wpList_nil ?_
        have hP5 := hid (hP4.out.step h5)
        have hQ5 := hid (hQ4.out.step h5)
        have hS5 := hid (hS4.out.step h5)
        have hO5 := hid (hO4.out.step h5)
        have hJ5 := hid (hJ4.out.step h5)
        have hr5 := hr4.trans (World.two.of_below h5 G (G + 1))
        (repeat ((fail_if_success (with_reducible refine Go.at_regionIn ?_)); gi_step))
        refine wpIn_calm 2 (by rintro ⟨_, _, h⟩; exact h) (by kernel_rfl) ?_
        simp only [List.take_succ_cons, List.take_zero]
        iterate 2 (apply calm_on rfl; (focus (intro W hB; go_simp; exact ⟨rfl, Below.refl _ _⟩)); simp only [Act.put, pvA, pv0, pv1])
        refine calm_nil ?_
        intro W6 h6
        simp only [List.drop_succ_cons, List.drop_zero]
        refine wpList_nil ?_
        have hP6 := hid (hP5.out.step h6)
        have hQ6 := hid (hQ5.out.step h6)
        have hS6 := hid (hS5.out.step h6)
        have hO6 := hid (hO5.out.step h6)
        have hJ6 := hid (hJ5.out.step h6)
        have hr6 := hr5.trans (World.two.of_below h6 G (G + 1))
        gi_wp2
        exact ⟨KeepsFrom.of_two hr6 (by omega) (by omega), hr6.block B (by have := hg0.size; omega) (by omega) (by omega), hid ⟨hg0.trans hr6, by rw [HN.out]; exact hO6.out, by rw [HN.out, HNX.out]; exact hJ6.out⟩⟩
      · rw [if_pos rfl, if_neg (by decide)] at hNx
        have HN := hid hNx
        clear hNx
        (repeat ((fail_if_success (with_reducible refine Go.at_regionIn ?_)); gi_step))
        refine wpIn_calm 5 (by rintro ⟨_, _, h⟩; exact h) (by kernel_rfl) ?_
        simp only [List.take_succ_cons, List.take_zero]
        iterate 5 (apply calm_on rfl; (focus (intro W hB; go_simp; exact ⟨rfl, Below.refl _ _⟩)); simp only [Act.put, pvA, pv0, pv1])
        refine calm_nil ?_
        intro W4 h4
        simp only [List.drop_succ_cons, List.drop_zero]
        refine wpList_nil ?_
        have hP4 := hid (hP3.out.step h4)
        have hQ4 := hid (hQ3.out.step h4)
        have hS4 := hid (hS3.out.step h4)
        have hO4 := hid (hO3.out.step h4)
        have hJ4 := hid (hJ3.out.step h4)
        have hr4 := hr3.trans (World.two.of_below h4 G (G + 1))
        (repeat ((fail_if_success (with_reducible refine Go.at_regionIn ?_)); gi_step))
        refine wpIn_calm 2 (by rintro ⟨_, _, h⟩; exact h) (by kernel_rfl) ?_
        simp only [List.take_succ_cons, List.take_zero]
        iterate 2 (apply calm_on rfl; (focus (intro W hB; go_simp; exact ⟨rfl, Below.refl _ _⟩)); simp only [Act.put, pvA, pv0, pv1])
        refine calm_nil ?_
        intro W5 h5
        simp only [List.drop_succ_cons, List.drop_zero]
        refine wpList_nil ?_
        have hP5 := hid (hP4.out.step h5)
        have hQ5 := hid (hQ4.out.step h5)
        have hS5 := hid (hS4.out.step h5)
        have hO5 := hid (hO4.out.step h5)
        have hJ5 := hid (hJ4.out.step h5)
        have hr5 := hr4.trans (World.two.of_below h5 G (G + 1))
        (repeat ((fail_if_success (with_reducible refine Go.at_regionIn ?_)); gi_step))
        refine wpIn_calm 3 (by rintro ⟨_, _, h⟩; exact h) (by kernel_rfl) ?_
        simp only [List.take_succ_cons, List.take_zero]
        (refine calm_whole rfl 89 (.tmp 10) rfl G rfl 89 (cells4 t) hO5.out g4 (i4 t) ?_; simp only [Act.put, pvA, pv0, pv1])
        (refine calm_whole rfl 89 (.tmp 5) rfl (w.heap.size + 1) rfl 89 (cells4 p) hP5.out g4 (i4 p) ?_; simp only [Act.put, pvA, pv0, pv1])
        (apply calm_on rfl; (focus (intro W hB; go_simp; refine (hA1.out W).mono ?_; rintro _ _ ⟨rfl, hb'⟩; exact ⟨rfl, hb'⟩)); simp only [Act.put, pvA, pv0, pv1])
        refine calm_nil ?_
        intro Wz hz
        simp only [List.drop_succ_cons, List.drop_zero]
        obtain ⟨u, hu⟩ : ∃ u, u = plusW t p := ⟨_, rfl⟩
        rw [← hu]
        refine wpList_set 89 (.tmp 10) (.tmp 46) rfl rfl rfl G (cells4 u) rfl rfl 89 (cells4 t) (hO5.out.step hz) (i4 u) rfl (one_cells4 u) ?_
        refine wpList_nil ?_
        have hr9 := (hr5.trans (World.two.of_below hz G (G + 1))).setG (cells4 u)
        have hO9 := (hO5.out.step hz).set (cells4 u)
        have hJ9 := (hJ5.out.step hz).other (show G + 1 ≠ G by omega) (cells4 u)
        gi_wp2
        exact ⟨KeepsFrom.of_two hr9 (by omega) (by omega), hr9.block B (by have := hg0.size; omega) (by omega) (by omega), hid ⟨hg0.trans hr9, by rw [HN.out, ← hu]; exact hO9, by rw [HN.out, HNX.out]; exact hJ9⟩⟩
    · rw [hb2] at hbit hNx
      clear hb2
      (repeat ((fail_if_success (with_reducible refine Go.at_regionIn ?_)); gi_step))
      refine wpIn_draw_all (by rintro ⟨_, _, h⟩; exact h) (by kernel_rfl) (by kernel_rfl) (by kernel_rfl) (by kernel_rfl) ?_
      (refine calm_cell rfl 3 (.tmp 11) rfl (G + 1) 0 rfl 3 #[.int .i64 (j : Int)] hJ1.out (.int .i64 (j : Int)) rfl oIn ?_; simp only [Act.put, pvA, pv0, pv1])
      iterate 2 (apply calm_on rfl; (focus (intro W hB; go_simp; exact ⟨rfl, Below.refl _ _⟩)); simp only [Act.put, pvA, pv0, pv1])
      (refine calm_cell rfl 22 (.tmp 25) rfl (w.heap.size + 1 + 1) (j / 64) rfl 24 (cellsW y) hY1.out (.int .u64 (lm y (j / 64))) (cellsW_at y _ (by omega)) o64 ?_; simp only [Act.put, pvA, pv0, pv1])
      (refine calm_cell rfl 3 (.tmp 11) rfl (G + 1) 0 rfl 3 #[.int .i64 (j : Int)] hJ1.out (.int .i64 (j : Int)) rfl oIn ?_; simp only [Act.put, pvA, pv0, pv1])
      iterate 5 (apply calm_on rfl; (focus (intro W hB; go_simp; exact ⟨rfl, Below.refl _ _⟩)); simp only [Act.put, pvA, pv0, pv1])
      refine calm_nil ?_
      intro W2 h2
      (try dsimp only)
      have hP2 := hid (hP1x.out.step h2)
      have hQ2 := hid (hQ1x.out.step h2)
      have hS2 := hid (hS1x.out.step h2)
      have hO2 := hid (hO1.out.step h2)
      have hJ2 := hid (hJ1.out.step h2)
      have hr2 := hr1.trans (World.two.of_below h2 G (G + 1))
      (repeat ((fail_if_success (with_reducible refine Go.at_regionIn ?_)); gi_step))
      refine wpIn_calm 2 (by rintro ⟨_, _, h⟩; exact h) (by kernel_rfl) ?_
      simp only [List.take_succ_cons, List.take_zero]
      (refine calm_cell rfl 3 (.tmp 11) rfl (G + 1) 0 rfl 3 #[.int .i64 (j : Int)] hJ2.out (.int .i64 (j : Int)) rfl oIn ?_; simp only [Act.put, pvA, pv0, pv1])
      (apply calm_on rfl; (focus (intro W hB; go_simp; exact ⟨rfl, Below.refl _ _⟩)); simp only [Act.put, pvA, pv0, pv1])
      refine calm_nil ?_
      intro Wy hy
      simp only [List.drop_succ_cons, List.drop_zero]
      refine wpList_put 3 (.tmp 11) (.tmp 33) rfl rfl rfl (G + 1) .i64 ((j : Int) - 1) rfl rfl 3 _ (hJ2.out.step hy) iIn1 ?_
      refine wpList_nil ?_
      have hP3 := hid ((hP2.out.step hy).other (show w.heap.size + 1 ≠ G + 1 by omega) #[.int .i64 ((j : Int) - 1)])
      have hQ3 := hid ((hQ2.out.step hy).other (show w.heap.size + 1 + 1 + 1 ≠ G + 1 by omega) #[.int .i64 ((j : Int) - 1)])
      have hS3 := hid ((hS2.out.step hy).other (show G9 ≠ G + 1 by omega) #[.int .i64 ((j : Int) - 1)])
      have hO3 := hid ((hO2.out.step hy).other (show G ≠ G + 1 by omega) #[.int .i64 ((j : Int) - 1)])
      have hJ3 := hid ((hJ2.out.step hy).set #[.int .i64 ((j : Int) - 1)])
      have hr3 := (hr2.trans (World.two.of_below hy G (G + 1))).setH #[.int .i64 ((j : Int) - 1)]
      obtain ⟨W3, hW3⟩ : ∃ z, z = Wy.setRow (G + 1) #[.int .i64 ((j : Int) - 1)] := ⟨_, rfl⟩
      rw [← hW3] at hP3 hQ3 hS3 hO3 hJ3 hr3 ⊢
      clear hW3 hy h2 hP2 hQ2 hS2 hO2 hJ2 hr2
      cases b
      · rw [if_neg (by decide), if_pos (by decide)] at hNx
        have HN := hid hNx
        clear hNx
        (repeat ((fail_if_success (with_reducible refine Go.at_regionIn ?_)); gi_step))
        refine wpIn_calm 5 (by rintro ⟨_, _, h⟩; exact h) (by kernel_rfl) ?_
        simp only [List.take_succ_cons, List.take_zero]
        iterate 2 (apply calm_on rfl; (focus (intro W hB; go_simp; exact ⟨rfl, Below.refl _ _⟩)); simp only [Act.put, pvA, pv0, pv1])
        (refine calm_off rfl ?_; simp only [Act.put, pvA, pv0, pv1])
        iterate 2 (apply calm_on rfl; (focus (intro W hB; go_simp; exact ⟨rfl, Below.refl _ _⟩)); simp only [Act.put, pvA, pv0, pv1])
        refine calm_nil ?_
        intro W4 h4
        simp only [List.drop_succ_cons, List.drop_zero]
        refine wpList_nil ?_
        have hP4 := hid (hP3.out.step h4)
        have hQ4 := hid (hQ3.out.step h4)
        have hS4 := hid (hS3.out.step h4)
        have hO4 := hid (hO3.out.step h4)
        have hJ4 := hid (hJ3.out.step h4)
        have hr4 := hr3.trans (World.two.of_below h4 G (G + 1))
        (repeat ((fail_if_success (with_reducible refine Go.at_regionIn ?_)); gi_step))
        refine wpIn_calm 2 (by rintro ⟨_, _, h⟩; exact h) (by kernel_rfl) ?_
        simp only [List.take_succ_cons, List.take_zero]
        iterate 2 (apply calm_on rfl; (focus (intro W hB; go_simp; exact ⟨rfl, Below.refl _ _⟩)); simp only [Act.put, pvA, pv0, pv1])
        refine calm_nil ?_
        intro W5 h5
        simp only [List.drop_succ_cons, List.drop_zero]
        refine wpList_nil ?_
        have hP5 := hid (hP4.out.step h5)
        have hQ5 := hid (hQ4.out.step h5)
        have hS5 := hid (hS4.out.step h5)
        have hO5 := hid (hO4.out.step h5)
        have hJ5 := hid (hJ4.out.step h5)
        have hr5 := hr4.trans (World.two.of_below h5 G (G + 1))
        (repeat ((fail_if_success (with_reducible refine Go.at_regionIn ?_)); gi_step))
        refine wpIn_calm 2 (by rintro ⟨_, _, h⟩; exact h) (by kernel_rfl) ?_
        simp only [List.take_succ_cons, List.take_zero]
        iterate 2 (apply calm_on rfl; (focus (intro W hB; go_simp; exact ⟨rfl, Below.refl _ _⟩)); simp only [Act.put, pvA, pv0, pv1])
        refine calm_nil ?_
        intro W6 h6
        simp only [List.drop_succ_cons, List.drop_zero]
        refine wpList_nil ?_
        have hP6 := hid (hP5.out.step h6)
        have hQ6 := hid (hQ5.out.step h6)
        have hS6 := hid (hS5.out.step h6)
        have hO6 := hid (hO5.out.step h6)
        have hJ6 := hid (hJ5.out.step h6)
        have hr6 := hr5.trans (World.two.of_below h6 G (G + 1))
        (repeat ((fail_if_success (with_reducible refine Go.at_regionIn ?_)); gi_step))
        refine wpIn_calm 3 (by rintro ⟨_, _, h⟩; exact h) (by kernel_rfl) ?_
        simp only [List.take_succ_cons, List.take_zero]
        (refine calm_whole rfl 89 (.tmp 10) rfl G rfl 89 (cells4 t) hO6.out g4 (i4 t) ?_; simp only [Act.put, pvA, pv0, pv1])
        (refine calm_whole rfl 89 (.tmp 7) rfl (w.heap.size + 1 + 1 + 1) rfl 89 (cells4 q) hQ6.out g4 (i4 q) ?_; simp only [Act.put, pvA, pv0, pv1])
        (apply calm_on rfl; (focus (intro W hB; go_simp; refine (hA2.out W).mono ?_; rintro _ _ ⟨rfl, hb'⟩; exact ⟨rfl, hb'⟩)); simp only [Act.put, pvA, pv0, pv1])
        refine calm_nil ?_
        intro Wz hz
        simp only [List.drop_succ_cons, List.drop_zero]
        obtain ⟨u, hu⟩ : ∃ u, u = plusW t q := ⟨_, rfl⟩
        rw [← hu]
        refine wpList_set 89 (.tmp 10) (.tmp 51) rfl rfl rfl G (cells4 u) rfl rfl 89 (cells4 t) (hO6.out.step hz) (i4 u) rfl (one_cells4 u) ?_
        refine wpList_nil ?_
        have hr9 := (hr6.trans (World.two.of_below hz G (G + 1))).setG (cells4 u)
        have hO9 := (hO6.out.step hz).set (cells4 u)
        have hJ9 := (hJ6.out.step hz).other (show G + 1 ≠ G by omega) (cells4 u)
        gi_wp2
        exact ⟨KeepsFrom.of_two hr9 (by omega) (by omega), hr9.block B (by have := hg0.size; omega) (by omega) (by omega), hid ⟨hg0.trans hr9, by rw [HN.out, ← hu]; exact hO9, by rw [HN.out, HNX.out]; exact hJ9⟩⟩
      · rw [if_pos rfl, if_pos (by decide)] at hNx
        have HN := hid hNx
        clear hNx
        (repeat ((fail_if_success (with_reducible refine Go.at_regionIn ?_)); gi_step))
        refine wpIn_calm 5 (by rintro ⟨_, _, h⟩; exact h) (by kernel_rfl) ?_
        simp only [List.take_succ_cons, List.take_zero]
        iterate 5 (apply calm_on rfl; (focus (intro W hB; go_simp; exact ⟨rfl, Below.refl _ _⟩)); simp only [Act.put, pvA, pv0, pv1])
        refine calm_nil ?_
        intro W4 h4
        simp only [List.drop_succ_cons, List.drop_zero]
        refine wpList_nil ?_
        have hP4 := hid (hP3.out.step h4)
        have hQ4 := hid (hQ3.out.step h4)
        have hS4 := hid (hS3.out.step h4)
        have hO4 := hid (hO3.out.step h4)
        have hJ4 := hid (hJ3.out.step h4)
        have hr4 := hr3.trans (World.two.of_below h4 G (G + 1))
        (repeat ((fail_if_success (with_reducible refine Go.at_regionIn ?_)); gi_step))
        refine wpIn_calm 3 (by rintro ⟨_, _, h⟩; exact h) (by kernel_rfl) ?_
        simp only [List.take_succ_cons, List.take_zero]
        (refine calm_whole rfl 89 (.tmp 10) rfl G rfl 89 (cells4 t) hO4.out g4 (i4 t) ?_; simp only [Act.put, pvA, pv0, pv1])
        (refine calm_whole rfl 89 (.tmp 9) rfl G9 rfl 89 (cells4 s) hS4.out g4 (i4 s) ?_; simp only [Act.put, pvA, pv0, pv1])
        (apply calm_on rfl; (focus (intro W hB; go_simp; refine (hA3.out W).mono ?_; rintro _ _ ⟨rfl, hb'⟩; exact ⟨rfl, hb'⟩)); simp only [Act.put, pvA, pv0, pv1])
        refine calm_nil ?_
        intro Wz hz
        simp only [List.drop_succ_cons, List.drop_zero]
        obtain ⟨u, hu⟩ : ∃ u, u = plusW t s := ⟨_, rfl⟩
        rw [← hu]
        refine wpList_set 89 (.tmp 10) (.tmp 41) rfl rfl rfl G (cells4 u) rfl rfl 89 (cells4 t) (hO4.out.step hz) (i4 u) rfl (one_cells4 u) ?_
        refine wpList_nil ?_
        have hr9 := (hr4.trans (World.two.of_below hz G (G + 1))).setG (cells4 u)
        have hO9 := (hO4.out.step hz).set (cells4 u)
        have hJ9 := (hJ4.out.step hz).other (show G + 1 ≠ G by omega) (cells4 u)
        gi_wp2
        exact ⟨KeepsFrom.of_two hr9 (by omega) (by omega), hr9.block B (by have := hg0.size; omega) (by omega) (by omega), hid ⟨hg0.trans hr9, by rw [HN.out, ← hu]; exact hO9, by rw [HN.out, HNX.out]; exact hJ9⟩⟩
  case done =>
    intro D xs W hD hS hI hKD
    obtain ⟨hg, hW, _⟩ := hI.out
    rw [hS] at hW
    have hRW := hid (hR5.out.two hg (by omega) (by omega))
    have hQW := hid hW
    obtain ⟨r, hr⟩ : ∃ r, r = (bfold x y p q s (List.range 256)).1 := ⟨_, rfl⟩
    rw [← hr] at hQW
    have HR := hid hr
    clear hr hW hS hI
    go_wp2_with (first | (refine wpList_get 89 (.tmp 10) rfl rfl G rfl 89 (cells4 r) hQW.out g4 (i4 r) ?_; simp only [Act.put, pvA, pv0, pv1]) | (refine wpList_set 89 (.tmp 8) (.tmp 52) rfl rfl rfl (w.heap.size + 1 + 1 + 1 + 1) (cells4 r) rfl rfl 89 (cells4 zero4) hRW.out (i4 r) rfl (one_cells4 r) ?_))
    have hne : w.heap.size + 1 + 1 + 1 + 1 ≠ D := by omega
    have hK' : (W.setRow (w.heap.size + 1 + 1 + 1 + 1) (cells4 r)).heap[D]? = some (.deferred (some [])) := by
      simp only [World.setRow, Array.getElem?_modify]
      rw [if_neg (by omega)]; exact hKD
    have hRb := hRW.out.set (cells4 r)
    have hbW : Below w.heap.size w (W.setRow (w.heap.size + 1 + 1 + 1 + 1) (cells4 r)) := below_set (Below.two hb5 hg hb5.size (by omega) (by omega)) _ (by omega) _
    refine ⟨by simp, .inl ⟨_, _, rfl, run_takeDeferred hK', ?_⟩⟩
    obtain ⟨d, h1, h2⟩ := aggT_spec g4
    refine ⟨_, results_cell_row rfl _ _ (w.heap.size + 1 + 1 + 1 + 1) 89 (cells4 r) (0, 0) d rfl ((World.putObj_heap_other hne).trans hRb) h1 (by cases d <;> first | rfl | cases h2) (i4 r), by rw [HR.out], ?_⟩
    exact hbW.grown (grownBy_putObj' _ D _) hbW.size (fun k e => by cases e; omega)
end Go.Proofs.YtejnnghfelpioaaGreat
namespace Go.Proofs.YtejnnghfelpioaaGreat
open Go.RowKit
def bsxN : Nat := 15112221349535400772501151409588531511454012693041857206046113283949847762202
theorem bsxN_cells : cellsW bsxN = #[.int .u64 14507833142362363162, .int .u64 7578651490590762930, .int .u64 13881468655802702940, .int .u64 2407515759118799870] := by
  have e : ∀ i, i < 4 → lm bsxN i = if i = 0 then 14507833142362363162 else if i = 1 then 7578651490590762930 else if i = 2 then 13881468655802702940 else 2407515759118799870 := by decide +kernel
  unfold cellsW; rw [e 0 (by decide), e 1 (by decide), e 2 (by decide), e 3 (by decide)]; rfl
theorem bsxN_built : Tryz.prog.built 24 [(0, .int .u64 14507833142362363162), (1, .int .u64 7578651490590762930), (2, .int .u64 13881468655802702940), (3, .int .u64 2407515759118799870)] = some (cellsW bsxN) := by rw [bsxN_cells]; kernel_rfl
theorem bsxN_lt : bsxN < 2 ^ 256 := by decide +kernel
def bsyN : Nat := 46316835694926478169428394003475163141307993866256225615783033603165251855960
theorem bsyN_cells : cellsW bsyN = #[.int .u64 7378697629483820632, .int .u64 7378697629483820646, .int .u64 7378697629483820646, .int .u64 7378697629483820646] := by
  have e : ∀ i, i < 4 → lm bsyN i = if i = 0 then 7378697629483820632 else if i = 1 then 7378697629483820646 else if i = 2 then 7378697629483820646 else 7378697629483820646 := by decide +kernel
  unfold cellsW; rw [e 0 (by decide), e 1 (by decide), e 2 (by decide), e 3 (by decide)]; rfl
theorem bsyN_built : Tryz.prog.built 24 [(0, .int .u64 7378697629483820632), (1, .int .u64 7378697629483820646), (2, .int .u64 7378697629483820646), (3, .int .u64 7378697629483820646)] = some (cellsW bsyN) := by rw [bsyN_cells]; kernel_rfl
theorem bsyN_lt : bsyN < 2 ^ 256 := by decide +kernel
def baseP : P2 := ⟨bsxN, bsyN⟩
def onL (p : P2) : Nat := subP (p.y * p.y % pN) (p.x * p.x % pN)
def onR (p : P2) : Nat := (1 + dN * ((p.x * p.x % pN) * (p.y * p.y % pN) % pN) % pN) % pN
def onB (p : P2) : Bool := decide (p.x < pN) && (decide (p.y < pN) && decide (onL p = onR p))
def propB (x : Nat) : Bool := decide (x < pN)
theorem prop_eq (x : Nat) (h : x < 2 ^ 256) : decide (x % pN = x) = propB x := by
  unfold propB
  by_cases hx : x < pN
  · rw [Nat.mod_eq_of_lt hx, decide_eq_true rfl, decide_eq_true hx]
  · rw [decide_eq_false hx, decide_eq_false (fun e => hx (by rw [← e]; exact Nat.mod_lt _ pN_pos))]
set_option maxRecDepth 100000 in
set_option maxHeartbeats 4000000 in
theorem base_any (w : World) : Calls Tryz.prog 26 #[] w fun e w' => e = .returned (pt baseP) ∧ Below w.heap.size w w' := by
  have kx := hid bsxN_built
  have ky := hid bsyN_built
  have hbp : baseP = ⟨bsxN, bsyN⟩ := rfl
  rw [hbp]
  clear hbp
  obtain ⟨x, hx⟩ : ∃ x, x = bsxN := ⟨_, rfl⟩
  obtain ⟨y, hy⟩ : ∃ y, y = bsyN := ⟨_, rfl⟩
  rw [← hx] at kx ⊢
  rw [← hy] at ky ⊢
  clear hx hy
  unfold pt
  obtain ⟨w0, hw0, k0, hbl0⟩ := entry1 w 29 (cellsP zeroP)
  have hb0_0 := hid k0
  clear k0
  go_enter Tryz.func26, Tryz.ntmps26
  (repeat ((fail_if_success (with_reducible refine Go.at_region ?_)); go_step))
  refine wp_region_lit ?_
  (refine wpList_alloc_new rfl 29 rfl (cellsP zeroP) zPe ?_; simp only [Act.put, pvA, pv0, pv1]; (try simp only [World.size_alloc]))
  refine wpList_nil ?_
  rw [← hw0]
  clear hw0
  (repeat ((fail_if_success (with_reducible refine Go.at_region ?_)); go_step))
  refine list_tail 3 ?_
  simp only [List.take_succ_cons, List.take_zero]
  (refine calm_build rfl 24 _ rfl (cellsW x) (by first | (simp only [List.map_toArray, List.map_cons, List.map_nil]; exact kx.out) | exact kx.out) ?_; simp only [Act.put, pvA, pv0, pv1])
  (refine calm_build rfl 24 _ rfl (cellsW y) (by first | (simp only [List.map_toArray, List.map_cons, List.map_nil]; exact ky.out) | exact ky.out) ?_; simp only [Act.put, pvA, pv0, pv1])
  (refine calm_build rfl 29 _ rfl (cellsP ⟨x, y⟩) (by first | (simp only [List.map_toArray, List.map_cons, List.map_nil]; exact (bPe x y)) | exact (bPe x y)) ?_; simp only [Act.put, pvA, pv0, pv1])
  refine calm_nil ?_
  intro wx1 hx1
  simp only [List.drop_succ_cons, List.drop_zero]
  (try simp only [Act.put, pvA, pv0, pv1])
  have fb0 := hb0_0.out.step hx1
  have hbb := hbl0.trans (hx1.mono hbl0.size)
  refine wpList_set 29 (.tmp 0) (.tmp 3) rfl rfl rfl w.heap.size (cellsP ⟨x, y⟩) rfl rfl 29 (cellsP zeroP) fb0 (iPe ⟨x, y⟩) rfl (one_cellsP ⟨x, y⟩) ?_
  replace fb0 := fb0.set (cellsP ⟨x, y⟩)
  replace hbb := below_set hbb w.heap.size (by omega) (cellsP ⟨x, y⟩)
  refine wpList_nil ?_
  obtain ⟨w1, hw⟩ : ∃ z, z = (wx1.setRow w.heap.size (cellsP ⟨x, y⟩)) := ⟨_, rfl⟩
  rw [← hw] at hbb fb0 ⊢
  have hb0_1 := hid fb0
  have hbl1 := hbb
  clear hw hbb fb0 hx1 hbl0 hb0_0 
  (repeat ((fail_if_success (with_reducible refine Go.at_region ?_)); go_step))
  refine ret_blk w.heap.size 29 (cellsP ⟨x, y⟩) rfl rfl hb0_1.out gPe (iPe ⟨x, y⟩) rfl ?_
  exact ⟨rfl, hbl1⟩
set_option maxRecDepth 100000 in
set_option maxHeartbeats 4000000 in
theorem proper_any (x : Nat) (w : World) (hx : x < 2 ^ 256) : Calls Tryz.prog 66 #[wd x] w fun e w' => e = .returned (.bool (propB x)) ∧ Below w.heap.size w w' := by
  have hq := eq_wd (x % pN) x (p_mod_lt x) hx
  rw [prop_eq x hx] at hq
  have c1 := hid fun w => (show Calls _ _ _ _ _ from by have := fadd_any x 0 w hx (by decide); rw [Nat.add_zero] at this; exact this)
  obtain ⟨r1, e1⟩ : ∃ r, r = x % pN := ⟨_, rfl⟩
  rw [← e1] at c1
  have E1 := hid e1
  clear e1
  rw [← E1.out] at hq
  have hBn := hid nil_built
  clear hx
  unfold wd at *
  obtain ⟨w0, hw0, k1, hbl0⟩ := entry1 w 24 (cellsW x)
  have hb1_0 := hid k1
  clear k1
  go_enter Tryz.func66, Tryz.ntmps66
  (repeat ((fail_if_success (with_reducible refine Go.at_region ?_)); go_step))
  refine wp_region_lit ?_
  (refine wpList_box 24 (.tmp 0) rfl rfl (cellsW x) rfl ?_; simp only [Act.put, pvA, pv0, pv1]; (try simp only [World.size_alloc]))
  (refine wpList_plain rfl fun K hK => ?_; go_simp; refine hK _ _ ?_; clear hK K; (try simp only [Act.put, pvA, pv0, pv1]))
  refine wpList_nil ?_
  rw [← hw0]
  clear hw0
  (repeat ((fail_if_success (with_reducible refine Go.at_region ?_)); go_step))
  refine draw_all (by kernel_rfl) (by kernel_rfl) (by kernel_rfl) ?_
  (refine calm_whole rfl 24 (.tmp 1) rfl w.heap.size rfl 24 (cellsW x) hb1_0.out gWd (iW x) ?_; simp only [Act.put, pvA, pv0, pv1])
  (refine calm_build rfl 24 _ rfl (cellsW 0) (by first | (simp only [List.map_toArray, List.map_cons, List.map_nil]; exact hBn.out) | exact hBn.out) ?_; simp only [Act.put, pvA, pv0, pv1])
  (apply calm_on rfl; (focus (intro W hB; go_simp; refine (c1.out W).mono ?_; rintro _ _ ⟨rfl, hb'⟩; exact ⟨rfl, hb'⟩)); simp only [Act.put, pvA, pv0, pv1])
  (refine calm_whole rfl 24 (.tmp 1) rfl w.heap.size rfl 24 (cellsW x) hb1_0.out gWd (iW x) ?_; simp only [Act.put, pvA, pv0, pv1])
  iterate 2 (apply calm_on rfl; (focus (intro W hB; go_simp; exact ⟨rfl, Below.refl _ _⟩)); simp only [Act.put, pvA, pv0, pv1])
  refine calm_nil ?_
  intro w1 hs1
  (try dsimp only)
  have hb1_1 := hid (hb1_0.out.step hs1)
  have hbl1 := hbl0.trans (hs1.mono hbl0.size)
  clear hs1 hbl0 hb1_0
  (repeat ((fail_if_success (with_reducible refine Go.at_region ?_)); go_step))
  go_ret
  exact ⟨rfl, hbl1⟩
set_option maxRecDepth 100000 in
set_option maxHeartbeats 4000000 in
theorem on_x (p : P2) (w : World) (hp : LtP p) (hx : propB p.x = false) : Calls Tryz.prog 20 #[pt p] w fun e w' => e = .returned (.bool false) ∧ Below w.heap.size w w' := by
  have cx := hid fun w => proper_any p.x w hp.x
  have cy := hid fun w => proper_any p.y w hp.y
  rw [hx] at cx
  clear hp hx cy
  unfold pt wd at *
  obtain ⟨w0, hw0, k1, hbl0⟩ := entry1 w 29 (cellsP p)
  have hb1_0 := hid k1
  clear k1
  go_enter Tryz.func20, Tryz.ntmps20
  (repeat ((fail_if_success (with_reducible refine Go.at_region ?_)); go_step))
  refine wp_region_lit ?_
  (refine wpList_box 29 (.tmp 0) rfl rfl (cellsP p) rfl ?_; simp only [Act.put, pvA, pv0, pv1]; (try simp only [World.size_alloc]))
  (refine wpList_plain rfl fun K hK => ?_; go_simp; refine hK _ _ ?_; clear hK K; (try simp only [Act.put, pvA, pv0, pv1]))
  refine wpList_nil ?_
  rw [← hw0]
  clear hw0
  (repeat ((fail_if_success (with_reducible refine Go.at_region ?_)); go_step))
  refine list_all ?_
  (apply calm_on rfl; (focus (intro W hB; go_simp; exact ⟨rfl, Below.refl _ _⟩)); simp only [Act.put, pvA, pv0, pv1])
  (refine calm_part rfl 24 (.tmp 5) rfl w.heap.size 0 rfl 29 (cellsP p) (cellsW (p).x) hb1_0.out (inP_x p) gWd (iW (p).x) ?_; simp only [Act.put, pvA, pv0, pv1])
  (apply calm_on rfl; (focus (intro W hB; go_simp; refine (cx.out W).mono ?_; rintro _ _ ⟨rfl, hb'⟩; exact ⟨rfl, hb'⟩)); simp only [Act.put, pvA, pv0, pv1])
  iterate 2 (apply calm_on rfl; (focus (intro W hB; go_simp; exact ⟨rfl, Below.refl _ _⟩)); simp only [Act.put, pvA, pv0, pv1])
  iterate 4 (refine calm_off rfl ?_; simp only [Act.put, pvA, pv0, pv1])
  (apply calm_on rfl; (focus (intro W hB; go_simp; exact ⟨rfl, Below.refl _ _⟩)); simp only [Act.put, pvA, pv0, pv1])
  refine calm_nil ?_
  intro w1 hs1
  (try dsimp only)
  have hb1_1 := hid (hb1_0.out.step hs1)
  have hbl1 := hbl0.trans (hs1.mono hbl0.size)
  clear hs1 hbl0 hb1_0
  (repeat ((fail_if_success (with_reducible refine Go.at_region ?_)); go_step))
  refine list_all ?_
  (apply calm_on rfl; (focus (intro W hB; go_simp; exact ⟨rfl, Below.refl _ _⟩)); simp only [Act.put, pvA, pv0, pv1])
  refine calm_nil ?_
  intro w2 hs2
  (try dsimp only)
  have hb1_2 := hid (hb1_1.out.step hs2)
  have hbl2 := hbl1.trans (hs2.mono hbl1.size)
  clear hs2 hbl1 hb1_1
  (repeat ((fail_if_success (with_reducible refine Go.at_region ?_)); go_step))
  go_ret
  exact ⟨rfl, hbl2⟩
set_option maxRecDepth 100000 in
set_option maxHeartbeats 4000000 in
theorem on_y (p : P2) (w : World) (hp : LtP p) (hx : propB p.x = true) (hy : propB p.y = false) : Calls Tryz.prog 20 #[pt p] w fun e w' => e = .returned (.bool false) ∧ Below w.heap.size w w' := by
  have cx := hid fun w => proper_any p.x w hp.x
  have cy := hid fun w => proper_any p.y w hp.y
  rw [hx] at cx
  rw [hy] at cy
  clear hp hx hy
  unfold pt wd at *
  obtain ⟨w0, hw0, k1, hbl0⟩ := entry1 w 29 (cellsP p)
  have hb1_0 := hid k1
  clear k1
  go_enter Tryz.func20, Tryz.ntmps20
  (repeat ((fail_if_success (with_reducible refine Go.at_region ?_)); go_step))
  refine wp_region_lit ?_
  (refine wpList_box 29 (.tmp 0) rfl rfl (cellsP p) rfl ?_; simp only [Act.put, pvA, pv0, pv1]; (try simp only [World.size_alloc]))
  (refine wpList_plain rfl fun K hK => ?_; go_simp; refine hK _ _ ?_; clear hK K; (try simp only [Act.put, pvA, pv0, pv1]))
  refine wpList_nil ?_
  rw [← hw0]
  clear hw0
  (repeat ((fail_if_success (with_reducible refine Go.at_region ?_)); go_step))
  refine list_all ?_
  (apply calm_on rfl; (focus (intro W hB; go_simp; exact ⟨rfl, Below.refl _ _⟩)); simp only [Act.put, pvA, pv0, pv1])
  (refine calm_part rfl 24 (.tmp 5) rfl w.heap.size 0 rfl 29 (cellsP p) (cellsW (p).x) hb1_0.out (inP_x p) gWd (iW (p).x) ?_; simp only [Act.put, pvA, pv0, pv1])
  (apply calm_on rfl; (focus (intro W hB; go_simp; refine (cx.out W).mono ?_; rintro _ _ ⟨rfl, hb'⟩; exact ⟨rfl, hb'⟩)); simp only [Act.put, pvA, pv0, pv1])
  iterate 3 (apply calm_on rfl; (focus (intro W hB; go_simp; exact ⟨rfl, Below.refl _ _⟩)); simp only [Act.put, pvA, pv0, pv1])
  (refine calm_part rfl 24 (.tmp 10) rfl w.heap.size 4 rfl 29 (cellsP p) (cellsW (p).y) hb1_0.out (inP_y p) gWd (iW (p).y) ?_; simp only [Act.put, pvA, pv0, pv1])
  (apply calm_on rfl; (focus (intro W hB; go_simp; refine (cy.out W).mono ?_; rintro _ _ ⟨rfl, hb'⟩; exact ⟨rfl, hb'⟩)); simp only [Act.put, pvA, pv0, pv1])
  iterate 2 (apply calm_on rfl; (focus (intro W hB; go_simp; exact ⟨rfl, Below.refl _ _⟩)); simp only [Act.put, pvA, pv0, pv1])
  refine calm_nil ?_
  intro w1 hs1
  (try dsimp only)
  have hb1_1 := hid (hb1_0.out.step hs1)
  have hbl1 := hbl0.trans (hs1.mono hbl0.size)
  clear hs1 hbl0 hb1_0
  (repeat ((fail_if_success (with_reducible refine Go.at_region ?_)); go_step))
  refine list_all ?_
  (apply calm_on rfl; (focus (intro W hB; go_simp; exact ⟨rfl, Below.refl _ _⟩)); simp only [Act.put, pvA, pv0, pv1])
  refine calm_nil ?_
  intro w2 hs2
  (try dsimp only)
  have hb1_2 := hid (hb1_1.out.step hs2)
  have hbl2 := hbl1.trans (hs2.mono hbl1.size)
  clear hs2 hbl1 hb1_1
  (repeat ((fail_if_success (with_reducible refine Go.at_region ?_)); go_step))
  go_ret
  exact ⟨rfl, hbl2⟩
set_option maxRecDepth 100000 in
set_option maxHeartbeats 4000000 in
theorem on_on (p : P2) (w : World) (hp : LtP p) (hx : propB p.x = true) (hy : propB p.y = true) : Calls Tryz.prog 20 #[pt p] w fun e w' => e = .returned (.bool (decide (onL p = onR p))) ∧ Below w.heap.size w w' := by
  have cx := hid fun w => proper_any p.x w hp.x
  have cy := hid fun w => proper_any p.y w hp.y
  rw [hx] at cx
  rw [hy] at cy
  unfold onL onR
  have c1 := hid fun w => fmul_any p.x p.x w hp.x hp.x
  obtain ⟨r1, e1⟩ : ∃ r, r = p.x * p.x % pN := ⟨_, rfl⟩
  rw [← e1] at c1
  have E1 := hid e1
  clear e1
  have c2 := hid fun w => fmul_any p.y p.y w hp.y hp.y
  obtain ⟨r2, e2⟩ : ∃ r, r = p.y * p.y % pN := ⟨_, rfl⟩
  rw [← e2] at c2
  have E2 := hid e2
  clear e2
  have lx2 : r1 < 2 ^ 256 := by rw [E1.out]; exact p_mod_lt _
  have ly2 : r2 < 2 ^ 256 := by rw [E2.out]; exact p_mod_lt _
  have c3 := hid fun w => fsub_any r2 r1 w ly2 lx2
  obtain ⟨r3, e3⟩ : ∃ r, r = subP r2 r1 := ⟨_, rfl⟩
  rw [← e3] at c3
  have E3 := hid e3
  clear e3
  have cd := hid fun w => d_any w
  have c4 := hid fun w => fmul_any r1 r2 w lx2 ly2
  obtain ⟨r4, e4⟩ : ∃ r, r = r1 * r2 % pN := ⟨_, rfl⟩
  rw [← e4] at c4
  have E4 := hid e4
  clear e4
  have l4 : r4 < 2 ^ 256 := by rw [E4.out]; exact p_mod_lt _
  have c5 := hid fun w => fmul_any dN r4 w dN_lt l4
  obtain ⟨r5, e5⟩ : ∃ r, r = dN * r4 % pN := ⟨_, rfl⟩
  rw [← e5] at c5
  have E5 := hid e5
  clear e5
  have l5 : r5 < 2 ^ 256 := by rw [E5.out]; exact p_mod_lt _
  have c6 := hid fun w => fadd_any 1 r5 w (by decide) l5
  obtain ⟨r6, e6⟩ : ∃ r, r = (1 + r5) % pN := ⟨_, rfl⟩
  rw [← e6] at c6
  have E6 := hid e6
  clear e6
  have hq := eq_wd r3 r6 (by rw [E3.out]; exact p_mod_lt _) (by rw [E6.out]; exact p_mod_lt _)
  rw [← E1.out, ← E2.out, ← E3.out, ← E4.out, ← E5.out, ← E6.out]
  obtain ⟨res, hres⟩ : ∃ b, b = decide (r3 = r6) := ⟨_, rfl⟩
  rw [← hres] at hq ⊢
  have h1b := hid one_built
  clear hp hx hy lx2 ly2 l4 l5 hres
  unfold pt wd at *
  obtain ⟨w0, hw0, k1, hbl0⟩ := entry1 w 29 (cellsP p)
  have hb1_0 := hid k1
  clear k1
  go_enter Tryz.func20, Tryz.ntmps20
  (repeat ((fail_if_success (with_reducible refine Go.at_region ?_)); go_step))
  refine wp_region_lit ?_
  (refine wpList_box 29 (.tmp 0) rfl rfl (cellsP p) rfl ?_; simp only [Act.put, pvA, pv0, pv1]; (try simp only [World.size_alloc]))
  (refine wpList_plain rfl fun K hK => ?_; go_simp; refine hK _ _ ?_; clear hK K; (try simp only [Act.put, pvA, pv0, pv1]))
  refine wpList_nil ?_
  rw [← hw0]
  clear hw0
  (repeat ((fail_if_success (with_reducible refine Go.at_region ?_)); go_step))
  refine list_all ?_
  (apply calm_on rfl; (focus (intro W hB; go_simp; exact ⟨rfl, Below.refl _ _⟩)); simp only [Act.put, pvA, pv0, pv1])
  (refine calm_part rfl 24 (.tmp 5) rfl w.heap.size 0 rfl 29 (cellsP p) (cellsW (p).x) hb1_0.out (inP_x p) gWd (iW (p).x) ?_; simp only [Act.put, pvA, pv0, pv1])
  (apply calm_on rfl; (focus (intro W hB; go_simp; refine (cx.out W).mono ?_; rintro _ _ ⟨rfl, hb'⟩; exact ⟨rfl, hb'⟩)); simp only [Act.put, pvA, pv0, pv1])
  iterate 3 (apply calm_on rfl; (focus (intro W hB; go_simp; exact ⟨rfl, Below.refl _ _⟩)); simp only [Act.put, pvA, pv0, pv1])
  (refine calm_part rfl 24 (.tmp 10) rfl w.heap.size 4 rfl 29 (cellsP p) (cellsW (p).y) hb1_0.out (inP_y p) gWd (iW (p).y) ?_; simp only [Act.put, pvA, pv0, pv1])
  (apply calm_on rfl; (focus (intro W hB; go_simp; refine (cy.out W).mono ?_; rintro _ _ ⟨rfl, hb'⟩; exact ⟨rfl, hb'⟩)); simp only [Act.put, pvA, pv0, pv1])
  iterate 2 (apply calm_on rfl; (focus (intro W hB; go_simp; exact ⟨rfl, Below.refl _ _⟩)); simp only [Act.put, pvA, pv0, pv1])
  refine calm_nil ?_
  intro w1 hs1
  (try dsimp only)
  have hb1_1 := hid (hb1_0.out.step hs1)
  have hbl1 := hbl0.trans (hs1.mono hbl0.size)
  clear hs1 hbl0 hb1_0
  (repeat ((fail_if_success (with_reducible refine Go.at_region ?_)); go_step))
  refine draw_new2 10 _ _ rfl 24 24 (cellsW 0) (cellsW 0) 3 4 rfl rfl rfl (by simp) zWd rfl rfl rfl (by simp) zWd (by decide) (by kernel_rfl) (by kernel_rfl) (by kernel_rfl) (by kernel_rfl) ?_
  simp only [List.take_succ_cons, List.take_zero]
  (apply calm_on rfl; (focus (intro W hB; go_simp; exact ⟨rfl, Below.refl _ _⟩)); simp only [Act.put, pvA, pv0, pv1])
  (refine calm_part rfl 24 (.tmp 15) rfl w.heap.size 0 rfl 29 (cellsP p) (cellsW (p).x) hb1_1.out (inP_x p) gWd (iW (p).x) ?_; simp only [Act.put, pvA, pv0, pv1])
  (apply calm_on rfl; (focus (intro W hB; go_simp; exact ⟨rfl, Below.refl _ _⟩)); simp only [Act.put, pvA, pv0, pv1])
  (refine calm_part rfl 24 (.tmp 17) rfl w.heap.size 0 rfl 29 (cellsP p) (cellsW (p).x) hb1_1.out (inP_x p) gWd (iW (p).x) ?_; simp only [Act.put, pvA, pv0, pv1])
  (apply calm_on rfl; (focus (intro W hB; go_simp; refine (c1.out W).mono ?_; rintro _ _ ⟨rfl, hb'⟩; exact ⟨rfl, hb'⟩)); simp only [Act.put, pvA, pv0, pv1])
  (apply calm_on rfl; (focus (intro W hB; go_simp; exact ⟨rfl, Below.refl _ _⟩)); simp only [Act.put, pvA, pv0, pv1])
  (refine calm_part rfl 24 (.tmp 20) rfl w.heap.size 4 rfl 29 (cellsP p) (cellsW (p).y) hb1_1.out (inP_y p) gWd (iW (p).y) ?_; simp only [Act.put, pvA, pv0, pv1])
  (apply calm_on rfl; (focus (intro W hB; go_simp; exact ⟨rfl, Below.refl _ _⟩)); simp only [Act.put, pvA, pv0, pv1])
  (refine calm_part rfl 24 (.tmp 22) rfl w.heap.size 4 rfl 29 (cellsP p) (cellsW (p).y) hb1_1.out (inP_y p) gWd (iW (p).y) ?_; simp only [Act.put, pvA, pv0, pv1])
  (apply calm_on rfl; (focus (intro W hB; go_simp; refine (c2.out W).mono ?_; rintro _ _ ⟨rfl, hb'⟩; exact ⟨rfl, hb'⟩)); simp only [Act.put, pvA, pv0, pv1])
  refine calm_nil ?_
  intro bk3 bk4 wx2 hle3 hle4 hne3 hx2 hn3 hn4
  simp only [List.drop_succ_cons, List.drop_zero]
  (try simp only [Act.put, pvA, pv0, pv1])
  have fb1 := hb1_1.out.step hx2
  have hbb := hbl1.trans (hx2.mono hbl1.size)
  have fb3 := hn3
  have fb4 := hn4
  have ne1_3 : w.heap.size ≠ bk3 := by have := hb1_1.out.lt; omega
  have ne1_4 : w.heap.size ≠ bk4 := by have := hb1_1.out.lt; omega
  have ge3 : w.heap.size ≤ bk3 := Nat.le_trans hbl1.size hle3
  have ge4 : w.heap.size ≤ bk4 := Nat.le_trans hbl1.size hle4
  refine wpList_set 24 (.tmp 3) (.tmp 19) rfl rfl rfl bk3 (cellsW r1) rfl rfl 24 (cellsW 0) fb3 (iW r1) rfl (one_cellsW r1) ?_
  replace fb1 := fb1.other ne1_3 (cellsW r1)
  replace fb3 := fb3.set (cellsW r1)
  replace fb4 := fb4.other (Ne.symm hne3) (cellsW r1)
  replace hbb := below_set hbb bk3 (ge3) (cellsW r1)
  refine wpList_set 24 (.tmp 4) (.tmp 24) rfl rfl rfl bk4 (cellsW r2) rfl rfl 24 (cellsW 0) fb4 (iW r2) rfl (one_cellsW r2) ?_
  replace fb1 := fb1.other ne1_4 (cellsW r2)
  replace fb3 := fb3.other hne3 (cellsW r2)
  replace fb4 := fb4.set (cellsW r2)
  replace hbb := below_set hbb bk4 (ge4) (cellsW r2)
  refine wpList_nil ?_
  obtain ⟨w2, hw⟩ : ∃ z, z = ((wx2.setRow bk3 (cellsW r1)).setRow bk4 (cellsW r2)) := ⟨_, rfl⟩
  rw [← hw] at hbb fb1 fb3 fb4 ⊢
  have hb1_2 := hid fb1
  have hb3_2 := hid fb3
  have hb4_2 := hid fb4
  have hbl2 := hbb
  clear hw hbb fb1 fb3 fb4 hx2 hbl1 hb1_1 hle3 hn3 hle4 hn4
  (repeat ((fail_if_success (with_reducible refine Go.at_region ?_)); go_step))
  refine draw_all (by kernel_rfl) (by kernel_rfl) (by kernel_rfl) ?_
  (refine calm_whole rfl 24 (.tmp 4) rfl bk4 rfl 24 (cellsW r2) hb4_2.out gWd (iW r2) ?_; simp only [Act.put, pvA, pv0, pv1])
  (refine calm_whole rfl 24 (.tmp 3) rfl bk3 rfl 24 (cellsW r1) hb3_2.out gWd (iW r1) ?_; simp only [Act.put, pvA, pv0, pv1])
  (apply calm_on rfl; (focus (intro W hB; go_simp; refine (c3.out W).mono ?_; rintro _ _ ⟨rfl, hb'⟩; exact ⟨rfl, hb'⟩)); simp only [Act.put, pvA, pv0, pv1])
  (refine calm_build rfl 24 _ rfl (cellsW 1) (by first | (simp only [List.map_toArray, List.map_cons, List.map_nil]; exact h1b.out) | exact h1b.out) ?_; simp only [Act.put, pvA, pv0, pv1])
  (apply calm_on rfl; (focus (intro W hB; go_simp; refine (cd.out W).mono ?_; rintro _ _ ⟨rfl, hb'⟩; exact ⟨rfl, hb'⟩)); simp only [Act.put, pvA, pv0, pv1])
  (refine calm_whole rfl 24 (.tmp 3) rfl bk3 rfl 24 (cellsW r1) hb3_2.out gWd (iW r1) ?_; simp only [Act.put, pvA, pv0, pv1])
  (refine calm_whole rfl 24 (.tmp 4) rfl bk4 rfl 24 (cellsW r2) hb4_2.out gWd (iW r2) ?_; simp only [Act.put, pvA, pv0, pv1])
  (apply calm_on rfl; (focus (intro W hB; go_simp; refine (c4.out W).mono ?_; rintro _ _ ⟨rfl, hb'⟩; exact ⟨rfl, hb'⟩)); simp only [Act.put, pvA, pv0, pv1])
  (apply calm_on rfl; (focus (intro W hB; go_simp; refine (c5.out W).mono ?_; rintro _ _ ⟨rfl, hb'⟩; exact ⟨rfl, hb'⟩)); simp only [Act.put, pvA, pv0, pv1])
  (apply calm_on rfl; (focus (intro W hB; go_simp; refine (c6.out W).mono ?_; rintro _ _ ⟨rfl, hb'⟩; exact ⟨rfl, hb'⟩)); simp only [Act.put, pvA, pv0, pv1])
  iterate 2 (apply calm_on rfl; (focus (intro W hB; go_simp; exact ⟨rfl, Below.refl _ _⟩)); simp only [Act.put, pvA, pv0, pv1])
  refine calm_nil ?_
  intro w3 hs3
  (try dsimp only)
  have hb1_3 := hid (hb1_2.out.step hs3)
  have hb3_3 := hid (hb3_2.out.step hs3)
  have hb4_3 := hid (hb4_2.out.step hs3)
  have hbl3 := hbl2.trans (hs3.mono hbl2.size)
  clear hs3 hbl2 hb1_2 hb3_2 hb4_2
  (repeat ((fail_if_success (with_reducible refine Go.at_region ?_)); go_step))
  go_ret
  exact ⟨rfl, hbl3⟩
theorem on_any (p : P2) (w : World) (hp : LtP p) : Calls Tryz.prog 20 #[pt p] w fun e w' => e = .returned (.bool (onB p)) ∧ Below w.heap.size w w' := by
  cases hx : propB p.x with
  | false =>
    have h : onB p = false := by unfold onB; rw [show decide (p.x < pN) = false from hx]; rfl
    rw [h]; exact on_x p w hp hx
  | true =>
    cases hy : propB p.y with
    | false =>
      have h : onB p = false := by unfold onB; rw [show decide (p.y < pN) = false from hy, Bool.false_and, Bool.and_false]
      rw [h]; exact on_y p w hp hx hy
    | true =>
      have h : onB p = decide (onL p = onR p) := by unfold onB; rw [show decide (p.x < pN) = true from hx, show decide (p.y < pN) = true from hy, Bool.true_and, Bool.true_and]
      rw [h]; exact on_on p w hp hx hy
end Go.Proofs.YtejnnghfelpioaaGreat
namespace Go.Proofs.YtejnnghfelpioaaGreat
open Go.RowKit
theorem eq_wd2 (d x y : Nat) (hx : x < 2 ^ 256) (hy : y < 2 ^ 256) (w : World) : (Op.equalIn (d + 2) 24 (.agg (cellsW x)) (.agg (cellsW y))).run Tryz.prog w = .ok (decide (x = y)) w := by
  have h := run_equalIn_ints (P := Tryz.prog) w d (t := 24) (k := .u64) uWd (by kernel_rfl) (by kernel_rfl) (by kernel_rfl) [lm x 0, lm x 1, lm x 2, lm x 3] [lm y 0, lm y 1, lm y 2, lm y 3] rfl rfl
  have e : decide ([lm x 0, lm x 1, lm x 2, lm x 3] = [lm y 0, lm y 1, lm y 2, lm y 3]) = decide (x = y) := by
    by_cases he : x = y
    · rw [he, decide_eq_true rfl, decide_eq_true rfl]
    · rw [decide_eq_false he, decide_eq_false]
      intro h2
      apply he
      refine wd_inj hx hy ?_
      simp only [List.cons.injEq, and_true] at h2
      unfold cellsW
      rw [h2.1, h2.2.1, h2.2.2.1, h2.2.2.2]
  rw [e] at h
  exact h
theorem fieldsPe : Tryz.prog.underlying 29 = some (.struct (Tryz.prog.fieldsOf 29)) := by kernel_rfl
theorem fieldsPe2 : (Tryz.prog.fieldsOf 29).toList.map (fun f => (f.type, f.offset, f.name != "_")) = [(24, 0, true), (24, 4, true)] := by kernel_rfl
theorem part_wd (w : World) (cs : Array Value) (o x : Nat) (h : cs.extract o (o + 4) = cellsW x) : (part 24 cs o).run Tryz.prog w = .ok (.agg (cellsW x)) w := by
  have hagg : ∀ w, (isAgg 24).run Tryz.prog w = .ok true w := fun w => by
    unfold isAgg; rw [Sem.run_bind, run_underlying uWd w]; rfl
  have hsz : ∀ w, (sizeOf 24).run Tryz.prog w = .ok 4 w := fun w => by
    have hi := iWd
    cases hq : Tryz.prog.info? 24 with
    | none => rw [hq] at hi; cases hi
    | some i => rw [hq] at hi; simp at hi; simp [sizeOf, typeInfo, hq, hi]
  simp [part, Sem.run_bind, hagg, hsz, h]
theorem eq_pt (a b : P2) (ha : LtP a) (hb : LtP b) (w : World) : (Op.equalIn 10000 29 (.agg (cellsP a)) (.agg (cellsP b))).run Tryz.prog w = .ok (decide (a.x = b.x ∧ a.y = b.y)) w := by
  rw [run_equalIn_struct w 9999 29 _ _ fieldsPe (by kernel_rfl)]
  have hf := fieldsPe2
  generalize (Tryz.prog.fieldsOf 29).toList = fs at hf
  have hl : fs.length = 2 := by have := congrArg List.length hf; simpa using this
  match fs, hl, hf with
  | [f1, f2], _, hf =>
    simp only [List.map_cons, List.map_nil, List.cons.injEq, Prod.mk.injEq, and_true] at hf
    obtain ⟨⟨t1, o1, n1⟩, t2, o2, n2⟩ := hf
    have n1' : f1.name ≠ "_" := by simpa using n1
    have n2' : f2.name ≠ "_" := by simpa using n2
    have p1 : ∀ (c : P2) (w : World), (part 24 (cellsP c) 0).run Tryz.prog w = .ok (.agg (cellsW c.x)) w := fun c w => part_wd w _ _ _ (by simp [cellsP, cellsW])
    have p2 : ∀ (c : P2) (w : World), (part 24 (cellsP c) 4).run Tryz.prog w = .ok (.agg (cellsW c.y)) w := fun c w => part_wd w _ _ _ (by simp [cellsP, cellsW])
    have q1 := fun w => eq_wd2 9997 a.x b.x ha.x hb.x w
    have q2 := fun w => eq_wd2 9997 a.y b.y ha.y hb.y w
    simp only [Op.eqFields, t1, o1, t2, o2, n1', n2', ne_eq, not_false_eq_true, if_true, Sem.run_bind, p1, p2, q1, q2, Result.andThen_ok, Sem.run_ite, Sem.run_pure]
    by_cases hx : a.x = b.x <;> by_cases hy : a.y = b.y <;> simp [hx, hy]
theorem bzPe : Tryz.prog.built 29 [] = some (cellsP zeroP) := by kernel_rfl
def addP (a b : P2) : P2 := if (onB a && onB b) = true then (if a.x = b.x ∧ a.y = b.y then pointW (twiceW (widenW a)) else pointW (plusW (widenW a) (widenW b))) else zeroP
def mulP (n : Nat) (p : P2) : P2 := if onB p = true then pointW (mW n (widenW p)) else zeroP
theorem pointW_lt (p : W4) : LtP (pointW p) := ⟨p_mod_lt _, p_mod_lt _⟩
theorem zeroP_lt : LtP zeroP := ⟨by decide, by decide⟩
theorem addP_lt (a b : P2) : LtP (addP a b) := by
  unfold addP
  split
  · split <;> exact pointW_lt _
  · exact zeroP_lt
theorem mulP_lt (n : Nat) (p : P2) : LtP (mulP n p) := by
  unfold mulP
  split
  · exact pointW_lt _
  · exact zeroP_lt
set_option maxRecDepth 100000 in
set_option maxHeartbeats 4000000 in
theorem add_a (a b : P2) (w : World) (ha : LtP a) (hb : LtP b) (ha1 : onB a = false) : Calls Tryz.prog 22 #[pt a, pt b] w fun e w' => e = .returned (pt zeroP) ∧ Below w.heap.size w w' := by
  have ca := hid fun w => on_any a w ha
  have cb := hid fun w => on_any b w hb
  rw [ha1] at ca
  clear ha hb ha1 cb
  unfold pt at *
  obtain ⟨w0, hw0, k2, k3, k4, hbl0⟩ := entry3 w 29 (cellsP a) 29 (cellsP b) 29 (cellsP zeroP)
  have hb2_0 := hid k2
  have hb3_0 := hid k3
  have hb4_0 := hid k4
  clear k2 k3 k4
  go_enter Tryz.func22, Tryz.ntmps22
  (repeat ((fail_if_success (with_reducible refine Go.at_region ?_)); go_step))
  refine wp_region_lit ?_
  (refine wpList_box 29 (.tmp 0) rfl rfl (cellsP a) rfl ?_; simp only [Act.put, pvA, pv0, pv1]; (try simp only [World.size_alloc]))
  (refine wpList_box 29 (.tmp 1) rfl rfl (cellsP b) rfl ?_; simp only [Act.put, pvA, pv0, pv1]; (try simp only [World.size_alloc]))
  (refine wpList_alloc_new rfl 29 rfl (cellsP zeroP) zPe ?_; simp only [Act.put, pvA, pv0, pv1]; (try simp only [World.size_alloc]))
  refine wpList_nil ?_
  rw [← hw0]
  clear hw0
  (repeat ((fail_if_success (with_reducible refine Go.at_region ?_)); go_step))
  refine list_all ?_
  (refine calm_whole rfl 29 (.tmp 2) rfl w.heap.size rfl 29 (cellsP a) hb2_0.out gPe (iPe a) ?_; simp only [Act.put, pvA, pv0, pv1])
  (apply calm_on rfl; (focus (intro W hB; go_simp; refine (ca.out W).mono ?_; rintro _ _ ⟨rfl, hb'⟩; exact ⟨rfl, hb'⟩)); simp only [Act.put, pvA, pv0, pv1])
  iterate 2 (apply calm_on rfl; (focus (intro W hB; go_simp; exact ⟨rfl, Below.refl _ _⟩)); simp only [Act.put, pvA, pv0, pv1])
  iterate 3 (refine calm_off rfl ?_; simp only [Act.put, pvA, pv0, pv1])
  (apply calm_on rfl; (focus (intro W hB; go_simp; exact ⟨rfl, Below.refl _ _⟩)); simp only [Act.put, pvA, pv0, pv1])
  refine calm_nil ?_
  intro w1 hs1
  (try dsimp only)
  have hb2_1 := hid (hb2_0.out.step hs1)
  have hb3_1 := hid (hb3_0.out.step hs1)
  have hb4_1 := hid (hb4_0.out.step hs1)
  have hbl1 := hbl0.trans (hs1.mono hbl0.size)
  clear hs1 hbl0 hb2_0 hb3_0 hb4_0
  (repeat ((fail_if_success (with_reducible refine Go.at_region ?_)); go_step))
  refine list_tail 1 ?_
  simp only [List.take_succ_cons, List.take_zero]
  (refine calm_build rfl 29 _ rfl (cellsP zeroP) (by first | (simp only [List.map_toArray, List.map_cons, List.map_nil]; exact bzPe) | exact bzPe) ?_; simp only [Act.put, pvA, pv0, pv1])
  refine calm_nil ?_
  intro wx2 hx2
  simp only [List.drop_succ_cons, List.drop_zero]
  (try simp only [Act.put, pvA, pv0, pv1])
  have fb2 := hb2_1.out.step hx2
  have fb3 := hb3_1.out.step hx2
  have fb4 := hb4_1.out.step hx2
  have hbb := hbl1.trans (hx2.mono hbl1.size)
  refine wpList_set 29 (.tmp 4) (.tmp 13) rfl rfl rfl (w.heap.size + 1 + 1) (cellsP zeroP) rfl rfl 29 (cellsP zeroP) fb4 (iPe zeroP) rfl (one_cellsP zeroP) ?_
  replace fb2 := fb2.other (show w.heap.size ≠ (w.heap.size + 1 + 1) by omega) (cellsP zeroP)
  replace fb3 := fb3.other (show (w.heap.size + 1) ≠ (w.heap.size + 1 + 1) by omega) (cellsP zeroP)
  replace fb4 := fb4.set (cellsP zeroP)
  replace hbb := below_set hbb (w.heap.size + 1 + 1) (by omega) (cellsP zeroP)
  refine wpList_nil ?_
  obtain ⟨w2, hw⟩ : ∃ z, z = (wx2.setRow (w.heap.size + 1 + 1) (cellsP zeroP)) := ⟨_, rfl⟩
  rw [← hw] at hbb fb2 fb3 fb4 ⊢
  have hb2_2 := hid fb2
  have hb3_2 := hid fb3
  have hb4_2 := hid fb4
  have hbl2 := hbb
  clear hw hbb fb2 fb3 fb4 hx2 hbl1 hb2_1 hb3_1 hb4_1 
  (repeat ((fail_if_success (with_reducible refine Go.at_region ?_)); go_step))
  refine ret_blk (w.heap.size + 1 + 1) 29 (cellsP zeroP) rfl rfl hb4_2.out gPe (iPe zeroP) rfl ?_
  exact ⟨rfl, hbl2⟩
set_option maxRecDepth 100000 in
set_option maxHeartbeats 4000000 in
theorem add_b (a b : P2) (w : World) (ha : LtP a) (hb : LtP b) (ha1 : onB a = true) (hb1 : onB b = false) : Calls Tryz.prog 22 #[pt a, pt b] w fun e w' => e = .returned (pt zeroP) ∧ Below w.heap.size w w' := by
  have ca := hid fun w => on_any a w ha
  have cb := hid fun w => on_any b w hb
  rw [ha1] at ca
  rw [hb1] at cb
  clear ha hb ha1 hb1
  unfold pt at *
  obtain ⟨w0, hw0, k2, k3, k4, hbl0⟩ := entry3 w 29 (cellsP a) 29 (cellsP b) 29 (cellsP zeroP)
  have hb2_0 := hid k2
  have hb3_0 := hid k3
  have hb4_0 := hid k4
  clear k2 k3 k4
  go_enter Tryz.func22, Tryz.ntmps22
  (repeat ((fail_if_success (with_reducible refine Go.at_region ?_)); go_step))
  refine wp_region_lit ?_
  (refine wpList_box 29 (.tmp 0) rfl rfl (cellsP a) rfl ?_; simp only [Act.put, pvA, pv0, pv1]; (try simp only [World.size_alloc]))
  (refine wpList_box 29 (.tmp 1) rfl rfl (cellsP b) rfl ?_; simp only [Act.put, pvA, pv0, pv1]; (try simp only [World.size_alloc]))
  (refine wpList_alloc_new rfl 29 rfl (cellsP zeroP) zPe ?_; simp only [Act.put, pvA, pv0, pv1]; (try simp only [World.size_alloc]))
  refine wpList_nil ?_
  rw [← hw0]
  clear hw0
  (repeat ((fail_if_success (with_reducible refine Go.at_region ?_)); go_step))
  refine list_all ?_
  (refine calm_whole rfl 29 (.tmp 2) rfl w.heap.size rfl 29 (cellsP a) hb2_0.out gPe (iPe a) ?_; simp only [Act.put, pvA, pv0, pv1])
  (apply calm_on rfl; (focus (intro W hB; go_simp; refine (ca.out W).mono ?_; rintro _ _ ⟨rfl, hb'⟩; exact ⟨rfl, hb'⟩)); simp only [Act.put, pvA, pv0, pv1])
  iterate 2 (apply calm_on rfl; (focus (intro W hB; go_simp; exact ⟨rfl, Below.refl _ _⟩)); simp only [Act.put, pvA, pv0, pv1])
  (refine calm_whole rfl 29 (.tmp 3) rfl (w.heap.size + 1) rfl 29 (cellsP b) hb3_0.out gPe (iPe b) ?_; simp only [Act.put, pvA, pv0, pv1])
  (apply calm_on rfl; (focus (intro W hB; go_simp; refine (cb.out W).mono ?_; rintro _ _ ⟨rfl, hb'⟩; exact ⟨rfl, hb'⟩)); simp only [Act.put, pvA, pv0, pv1])
  iterate 2 (apply calm_on rfl; (focus (intro W hB; go_simp; exact ⟨rfl, Below.refl _ _⟩)); simp only [Act.put, pvA, pv0, pv1])
  refine calm_nil ?_
  intro w1 hs1
  (try dsimp only)
  have hb2_1 := hid (hb2_0.out.step hs1)
  have hb3_1 := hid (hb3_0.out.step hs1)
  have hb4_1 := hid (hb4_0.out.step hs1)
  have hbl1 := hbl0.trans (hs1.mono hbl0.size)
  clear hs1 hbl0 hb2_0 hb3_0 hb4_0
  (repeat ((fail_if_success (with_reducible refine Go.at_region ?_)); go_step))
  refine list_tail 1 ?_
  simp only [List.take_succ_cons, List.take_zero]
  (refine calm_build rfl 29 _ rfl (cellsP zeroP) (by first | (simp only [List.map_toArray, List.map_cons, List.map_nil]; exact bzPe) | exact bzPe) ?_; simp only [Act.put, pvA, pv0, pv1])
  refine calm_nil ?_
  intro wx2 hx2
  simp only [List.drop_succ_cons, List.drop_zero]
  (try simp only [Act.put, pvA, pv0, pv1])
  have fb2 := hb2_1.out.step hx2
  have fb3 := hb3_1.out.step hx2
  have fb4 := hb4_1.out.step hx2
  have hbb := hbl1.trans (hx2.mono hbl1.size)
  refine wpList_set 29 (.tmp 4) (.tmp 13) rfl rfl rfl (w.heap.size + 1 + 1) (cellsP zeroP) rfl rfl 29 (cellsP zeroP) fb4 (iPe zeroP) rfl (one_cellsP zeroP) ?_
  replace fb2 := fb2.other (show w.heap.size ≠ (w.heap.size + 1 + 1) by omega) (cellsP zeroP)
  replace fb3 := fb3.other (show (w.heap.size + 1) ≠ (w.heap.size + 1 + 1) by omega) (cellsP zeroP)
  replace fb4 := fb4.set (cellsP zeroP)
  replace hbb := below_set hbb (w.heap.size + 1 + 1) (by omega) (cellsP zeroP)
  refine wpList_nil ?_
  obtain ⟨w2, hw⟩ : ∃ z, z = (wx2.setRow (w.heap.size + 1 + 1) (cellsP zeroP)) := ⟨_, rfl⟩
  rw [← hw] at hbb fb2 fb3 fb4 ⊢
  have hb2_2 := hid fb2
  have hb3_2 := hid fb3
  have hb4_2 := hid fb4
  have hbl2 := hbb
  clear hw hbb fb2 fb3 fb4 hx2 hbl1 hb2_1 hb3_1 hb4_1 
  (repeat ((fail_if_success (with_reducible refine Go.at_region ?_)); go_step))
  refine ret_blk (w.heap.size + 1 + 1) 29 (cellsP zeroP) rfl rfl hb4_2.out gPe (iPe zeroP) rfl ?_
  exact ⟨rfl, hbl2⟩
set_option maxRecDepth 100000 in
set_option maxHeartbeats 4000000 in
theorem add_same (a b : P2) (w : World) (ha : LtP a) (hb : LtP b) (ha1 : onB a = true) (hb1 : onB b = true) (he : a.x = b.x ∧ a.y = b.y) : Calls Tryz.prog 22 #[pt a, pt b] w fun e w' => e = .returned (pt (pointW (twiceW (widenW a)))) ∧ Below w.heap.size w w' := by
  have ca := hid fun w => on_any a w ha
  have cb := hid fun w => on_any b w hb
  rw [ha1] at ca
  rw [hb1] at cb
  have hq := eq_pt a b ha hb
  rw [decide_eq_true he] at hq
  have c1 := hid fun w => widen_any a w ha
  have t1 := widenW_t a ha
  obtain ⟨r1, e1⟩ : ∃ r, r = widenW a := ⟨_, rfl⟩
  rw [← e1] at c1 t1
  replace t1 := hid t1
  have E1 := hid e1
  clear e1
  have c2 := hid fun w => twiceW_any r1 w t1.out
  have t2 := twiceW_t r1 t1.out
  obtain ⟨r2, e2⟩ : ∃ r, r = twiceW r1 := ⟨_, rfl⟩
  rw [← e2] at c2 t2
  replace t2 := hid t2
  have E2 := hid e2
  clear e2
  have c3 := hid fun w => pointW_any r2 w t2.out
  obtain ⟨r3, e3⟩ : ∃ r, r = pointW r2 := ⟨_, rfl⟩
  rw [← e3] at c3
  have E3 := hid e3
  clear e3
  clear ha hb ha1 hb1 he
  unfold pt w4 at *
  obtain ⟨w0, hw0, k2, k3, k4, hbl0⟩ := entry3 w 29 (cellsP a) 29 (cellsP b) 29 (cellsP zeroP)
  have hb2_0 := hid k2
  have hb3_0 := hid k3
  have hb4_0 := hid k4
  clear k2 k3 k4
  go_enter Tryz.func22, Tryz.ntmps22
  (repeat ((fail_if_success (with_reducible refine Go.at_region ?_)); go_step))
  refine wp_region_lit ?_
  (refine wpList_box 29 (.tmp 0) rfl rfl (cellsP a) rfl ?_; simp only [Act.put, pvA, pv0, pv1]; (try simp only [World.size_alloc]))
  (refine wpList_box 29 (.tmp 1) rfl rfl (cellsP b) rfl ?_; simp only [Act.put, pvA, pv0, pv1]; (try simp only [World.size_alloc]))
  (refine wpList_alloc_new rfl 29 rfl (cellsP zeroP) zPe ?_; simp only [Act.put, pvA, pv0, pv1]; (try simp only [World.size_alloc]))
  refine wpList_nil ?_
  rw [← hw0]
  clear hw0
  (repeat ((fail_if_success (with_reducible refine Go.at_region ?_)); go_step))
  refine list_all ?_
  (refine calm_whole rfl 29 (.tmp 2) rfl w.heap.size rfl 29 (cellsP a) hb2_0.out gPe (iPe a) ?_; simp only [Act.put, pvA, pv0, pv1])
  (apply calm_on rfl; (focus (intro W hB; go_simp; refine (ca.out W).mono ?_; rintro _ _ ⟨rfl, hb'⟩; exact ⟨rfl, hb'⟩)); simp only [Act.put, pvA, pv0, pv1])
  iterate 2 (apply calm_on rfl; (focus (intro W hB; go_simp; exact ⟨rfl, Below.refl _ _⟩)); simp only [Act.put, pvA, pv0, pv1])
  (refine calm_whole rfl 29 (.tmp 3) rfl (w.heap.size + 1) rfl 29 (cellsP b) hb3_0.out gPe (iPe b) ?_; simp only [Act.put, pvA, pv0, pv1])
  (apply calm_on rfl; (focus (intro W hB; go_simp; refine (cb.out W).mono ?_; rintro _ _ ⟨rfl, hb'⟩; exact ⟨rfl, hb'⟩)); simp only [Act.put, pvA, pv0, pv1])
  iterate 2 (apply calm_on rfl; (focus (intro W hB; go_simp; exact ⟨rfl, Below.refl _ _⟩)); simp only [Act.put, pvA, pv0, pv1])
  refine calm_nil ?_
  intro w1 hs1
  (try dsimp only)
  have hb2_1 := hid (hb2_0.out.step hs1)
  have hb3_1 := hid (hb3_0.out.step hs1)
  have hb4_1 := hid (hb4_0.out.step hs1)
  have hbl1 := hbl0.trans (hs1.mono hbl0.size)
  clear hs1 hbl0 hb2_0 hb3_0 hb4_0
  (repeat ((fail_if_success (with_reducible refine Go.at_region ?_)); go_step))
  refine list_all ?_
  (refine calm_whole rfl 29 (.tmp 2) rfl w.heap.size rfl 29 (cellsP a) hb2_1.out gPe (iPe a) ?_; simp only [Act.put, pvA, pv0, pv1])
  (refine calm_whole rfl 29 (.tmp 3) rfl (w.heap.size + 1) rfl 29 (cellsP b) hb3_1.out gPe (iPe b) ?_; simp only [Act.put, pvA, pv0, pv1])
  (apply calm_on rfl; (focus (intro W hB; go_simp; exact ⟨rfl, Below.refl _ _⟩)); simp only [Act.put, pvA, pv0, pv1])
  refine calm_nil ?_
  intro w2 hs2
  (try dsimp only)
  have hb2_2 := hid (hb2_1.out.step hs2)
  have hb3_2 := hid (hb3_1.out.step hs2)
  have hb4_2 := hid (hb4_1.out.step hs2)
  have hbl2 := hbl1.trans (hs2.mono hbl1.size)
  clear hs2 hbl1 hb2_1 hb3_1 hb4_1
  (repeat ((fail_if_success (with_reducible refine Go.at_region ?_)); go_step))
  refine list_tail 4 ?_
  simp only [List.take_succ_cons, List.take_zero]
  (refine calm_whole rfl 29 (.tmp 2) rfl w.heap.size rfl 29 (cellsP a) hb2_2.out gPe (iPe a) ?_; simp only [Act.put, pvA, pv0, pv1])
  (apply calm_on rfl; (focus (intro W hB; go_simp; refine (c1.out W).mono ?_; rintro _ _ ⟨rfl, hb'⟩; exact ⟨rfl, hb'⟩)); simp only [Act.put, pvA, pv0, pv1])
  (apply calm_on rfl; (focus (intro W hB; go_simp; refine (c2.out W).mono ?_; rintro _ _ ⟨rfl, hb'⟩; exact ⟨rfl, hb'⟩)); simp only [Act.put, pvA, pv0, pv1])
  (apply calm_on rfl; (focus (intro W hB; go_simp; refine (c3.out W).mono ?_; rintro _ _ ⟨rfl, hb'⟩; exact ⟨rfl, hb'⟩)); simp only [Act.put, pvA, pv0, pv1])
  refine calm_nil ?_
  intro wx3 hx3
  simp only [List.drop_succ_cons, List.drop_zero]
  (try simp only [Act.put, pvA, pv0, pv1])
  have fb2 := hb2_2.out.step hx3
  have fb3 := hb3_2.out.step hx3
  have fb4 := hb4_2.out.step hx3
  have hbb := hbl2.trans (hx3.mono hbl2.size)
  refine wpList_set 29 (.tmp 4) (.tmp 20) rfl rfl rfl (w.heap.size + 1 + 1) (cellsP r3) rfl rfl 29 (cellsP zeroP) fb4 (iPe r3) rfl (one_cellsP r3) ?_
  replace fb2 := fb2.other (show w.heap.size ≠ (w.heap.size + 1 + 1) by omega) (cellsP r3)
  replace fb3 := fb3.other (show (w.heap.size + 1) ≠ (w.heap.size + 1 + 1) by omega) (cellsP r3)
  replace fb4 := fb4.set (cellsP r3)
  replace hbb := below_set hbb (w.heap.size + 1 + 1) (by omega) (cellsP r3)
  refine wpList_nil ?_
  obtain ⟨w3, hw⟩ : ∃ z, z = (wx3.setRow (w.heap.size + 1 + 1) (cellsP r3)) := ⟨_, rfl⟩
  rw [← hw] at hbb fb2 fb3 fb4 ⊢
  have hb2_3 := hid fb2
  have hb3_3 := hid fb3
  have hb4_3 := hid fb4
  have hbl3 := hbb
  clear hw hbb fb2 fb3 fb4 hx3 hbl2 hb2_2 hb3_2 hb4_2 
  (repeat ((fail_if_success (with_reducible refine Go.at_region ?_)); go_step))
  refine ret_blk (w.heap.size + 1 + 1) 29 (cellsP r3) rfl rfl hb4_3.out gPe (iPe r3) rfl ?_
  exact ⟨(by rw [E3.out, E2.out, E1.out]; first | done | rfl), hbl3⟩
set_option maxRecDepth 100000 in
set_option maxHeartbeats 4000000 in
theorem add_two (a b : P2) (w : World) (ha : LtP a) (hb : LtP b) (ha1 : onB a = true) (hb1 : onB b = true) (he : ¬ (a.x = b.x ∧ a.y = b.y)) : Calls Tryz.prog 22 #[pt a, pt b] w fun e w' => e = .returned (pt (pointW (plusW (widenW a) (widenW b)))) ∧ Below w.heap.size w w' := by
  have ca := hid fun w => on_any a w ha
  have cb := hid fun w => on_any b w hb
  rw [ha1] at ca
  rw [hb1] at cb
  have hq := eq_pt a b ha hb
  rw [decide_eq_false he] at hq
  have c1 := hid fun w => widen_any a w ha
  have t1 := widenW_t a ha
  obtain ⟨r1, e1⟩ : ∃ r, r = widenW a := ⟨_, rfl⟩
  rw [← e1] at c1 t1
  replace t1 := hid t1
  have E1 := hid e1
  clear e1
  have c2 := hid fun w => widen_any b w hb
  have t2 := widenW_t b hb
  obtain ⟨r2, e2⟩ : ∃ r, r = widenW b := ⟨_, rfl⟩
  rw [← e2] at c2 t2
  replace t2 := hid t2
  have E2 := hid e2
  clear e2
  have c3 := hid fun w => plusW_any r1 r2 w t1.out t2.out
  have t3 := plusW_t r1 r2 t1.out t2.out
  obtain ⟨r3, e3⟩ : ∃ r, r = plusW r1 r2 := ⟨_, rfl⟩
  rw [← e3] at c3 t3
  replace t3 := hid t3
  have E3 := hid e3
  clear e3
  have c4 := hid fun w => pointW_any r3 w t3.out
  obtain ⟨r4, e4⟩ : ∃ r, r = pointW r3 := ⟨_, rfl⟩
  rw [← e4] at c4
  have E4 := hid e4
  clear e4
  clear ha hb ha1 hb1 he
  unfold pt w4 at *
  obtain ⟨w0, hw0, k2, k3, k4, hbl0⟩ := entry3 w 29 (cellsP a) 29 (cellsP b) 29 (cellsP zeroP)
  have hb2_0 := hid k2
  have hb3_0 := hid k3
  have hb4_0 := hid k4
  clear k2 k3 k4
  go_enter Tryz.func22, Tryz.ntmps22
  (repeat ((fail_if_success (with_reducible refine Go.at_region ?_)); go_step))
  refine wp_region_lit ?_
  (refine wpList_box 29 (.tmp 0) rfl rfl (cellsP a) rfl ?_; simp only [Act.put, pvA, pv0, pv1]; (try simp only [World.size_alloc]))
  (refine wpList_box 29 (.tmp 1) rfl rfl (cellsP b) rfl ?_; simp only [Act.put, pvA, pv0, pv1]; (try simp only [World.size_alloc]))
  (refine wpList_alloc_new rfl 29 rfl (cellsP zeroP) zPe ?_; simp only [Act.put, pvA, pv0, pv1]; (try simp only [World.size_alloc]))
  refine wpList_nil ?_
  rw [← hw0]
  clear hw0
  (repeat ((fail_if_success (with_reducible refine Go.at_region ?_)); go_step))
  refine list_all ?_
  (refine calm_whole rfl 29 (.tmp 2) rfl w.heap.size rfl 29 (cellsP a) hb2_0.out gPe (iPe a) ?_; simp only [Act.put, pvA, pv0, pv1])
  (apply calm_on rfl; (focus (intro W hB; go_simp; refine (ca.out W).mono ?_; rintro _ _ ⟨rfl, hb'⟩; exact ⟨rfl, hb'⟩)); simp only [Act.put, pvA, pv0, pv1])
  iterate 2 (apply calm_on rfl; (focus (intro W hB; go_simp; exact ⟨rfl, Below.refl _ _⟩)); simp only [Act.put, pvA, pv0, pv1])
  (refine calm_whole rfl 29 (.tmp 3) rfl (w.heap.size + 1) rfl 29 (cellsP b) hb3_0.out gPe (iPe b) ?_; simp only [Act.put, pvA, pv0, pv1])
  (apply calm_on rfl; (focus (intro W hB; go_simp; refine (cb.out W).mono ?_; rintro _ _ ⟨rfl, hb'⟩; exact ⟨rfl, hb'⟩)); simp only [Act.put, pvA, pv0, pv1])
  iterate 2 (apply calm_on rfl; (focus (intro W hB; go_simp; exact ⟨rfl, Below.refl _ _⟩)); simp only [Act.put, pvA, pv0, pv1])
  refine calm_nil ?_
  intro w1 hs1
  (try dsimp only)
  have hb2_1 := hid (hb2_0.out.step hs1)
  have hb3_1 := hid (hb3_0.out.step hs1)
  have hb4_1 := hid (hb4_0.out.step hs1)
  have hbl1 := hbl0.trans (hs1.mono hbl0.size)
  clear hs1 hbl0 hb2_0 hb3_0 hb4_0
  (repeat ((fail_if_success (with_reducible refine Go.at_region ?_)); go_step))
  refine list_all ?_
  (refine calm_whole rfl 29 (.tmp 2) rfl w.heap.size rfl 29 (cellsP a) hb2_1.out gPe (iPe a) ?_; simp only [Act.put, pvA, pv0, pv1])
  (refine calm_whole rfl 29 (.tmp 3) rfl (w.heap.size + 1) rfl 29 (cellsP b) hb3_1.out gPe (iPe b) ?_; simp only [Act.put, pvA, pv0, pv1])
  (apply calm_on rfl; (focus (intro W hB; go_simp; exact ⟨rfl, Below.refl _ _⟩)); simp only [Act.put, pvA, pv0, pv1])
  refine calm_nil ?_
  intro w2 hs2
  (try dsimp only)
  have hb2_2 := hid (hb2_1.out.step hs2)
  have hb3_2 := hid (hb3_1.out.step hs2)
  have hb4_2 := hid (hb4_1.out.step hs2)
  have hbl2 := hbl1.trans (hs2.mono hbl1.size)
  clear hs2 hbl1 hb2_1 hb3_1 hb4_1
  (repeat ((fail_if_success (with_reducible refine Go.at_region ?_)); go_step))
  refine draw_tail 6 (by kernel_rfl) (by kernel_rfl) (by kernel_rfl) ?_
  simp only [List.take_succ_cons, List.take_zero]
  (refine calm_whole rfl 29 (.tmp 2) rfl w.heap.size rfl 29 (cellsP a) hb2_2.out gPe (iPe a) ?_; simp only [Act.put, pvA, pv0, pv1])
  (apply calm_on rfl; (focus (intro W hB; go_simp; refine (c1.out W).mono ?_; rintro _ _ ⟨rfl, hb'⟩; exact ⟨rfl, hb'⟩)); simp only [Act.put, pvA, pv0, pv1])
  (refine calm_whole rfl 29 (.tmp 3) rfl (w.heap.size + 1) rfl 29 (cellsP b) hb3_2.out gPe (iPe b) ?_; simp only [Act.put, pvA, pv0, pv1])
  (apply calm_on rfl; (focus (intro W hB; go_simp; refine (c2.out W).mono ?_; rintro _ _ ⟨rfl, hb'⟩; exact ⟨rfl, hb'⟩)); simp only [Act.put, pvA, pv0, pv1])
  (apply calm_on rfl; (focus (intro W hB; go_simp; refine (c3.out W).mono ?_; rintro _ _ ⟨rfl, hb'⟩; exact ⟨rfl, hb'⟩)); simp only [Act.put, pvA, pv0, pv1])
  (apply calm_on rfl; (focus (intro W hB; go_simp; refine (c4.out W).mono ?_; rintro _ _ ⟨rfl, hb'⟩; exact ⟨rfl, hb'⟩)); simp only [Act.put, pvA, pv0, pv1])
  refine calm_nil ?_
  intro wx3 hx3
  simp only [List.drop_succ_cons, List.drop_zero]
  (try simp only [Act.put, pvA, pv0, pv1])
  have fb2 := hb2_2.out.step hx3
  have fb3 := hb3_2.out.step hx3
  have fb4 := hb4_2.out.step hx3
  have hbb := hbl2.trans (hx3.mono hbl2.size)
  refine wpList_set 29 (.tmp 4) (.tmp 26) rfl rfl rfl (w.heap.size + 1 + 1) (cellsP r4) rfl rfl 29 (cellsP zeroP) fb4 (iPe r4) rfl (one_cellsP r4) ?_
  replace fb2 := fb2.other (show w.heap.size ≠ (w.heap.size + 1 + 1) by omega) (cellsP r4)
  replace fb3 := fb3.other (show (w.heap.size + 1) ≠ (w.heap.size + 1 + 1) by omega) (cellsP r4)
  replace fb4 := fb4.set (cellsP r4)
  replace hbb := below_set hbb (w.heap.size + 1 + 1) (by omega) (cellsP r4)
  refine wpList_nil ?_
  obtain ⟨w3, hw⟩ : ∃ z, z = (wx3.setRow (w.heap.size + 1 + 1) (cellsP r4)) := ⟨_, rfl⟩
  rw [← hw] at hbb fb2 fb3 fb4 ⊢
  have hb2_3 := hid fb2
  have hb3_3 := hid fb3
  have hb4_3 := hid fb4
  have hbl3 := hbb
  clear hw hbb fb2 fb3 fb4 hx3 hbl2 hb2_2 hb3_2 hb4_2 
  (repeat ((fail_if_success (with_reducible refine Go.at_region ?_)); go_step))
  refine ret_blk (w.heap.size + 1 + 1) 29 (cellsP r4) rfl rfl hb4_3.out gPe (iPe r4) rfl ?_
  exact ⟨(by rw [E4.out, E3.out, E2.out, E1.out]; first | done | rfl), hbl3⟩
theorem add_any (a b : P2) (w : World) (ha : LtP a) (hb : LtP b) : Calls Tryz.prog 22 #[pt a, pt b] w fun e w' => e = .returned (pt (addP a b)) ∧ Below w.heap.size w w' := by
  unfold addP
  cases ha1 : onB a with
  | false => exact add_a a b w ha hb ha1
  | true =>
    cases hb1 : onB b with
    | false => exact add_b a b w ha hb ha1 hb1
    | true =>
      rw [if_pos (show (true && true) = true from rfl)]
      by_cases he : a.x = b.x ∧ a.y = b.y
      · rw [if_pos he]; exact add_same a b w ha hb ha1 hb1 he
      · rw [if_neg he]; exact add_two a b w ha hb ha1 hb1 he
set_option maxRecDepth 100000 in
set_option maxHeartbeats 4000000 in
theorem mul_off (n : Nat) (p : P2) (w : World) (hp : LtP p) (h1 : onB p = false) : Calls Tryz.prog 24 #[wd n, pt p] w fun e w' => e = .returned (pt zeroP) ∧ Below w.heap.size w w' := by
  have ca := hid fun w => on_any p w hp
  rw [h1] at ca
  clear hp h1
  unfold pt wd at *
  obtain ⟨w0, hw0, k2, k3, k4, hbl0⟩ := entry3 w 24 (cellsW n) 29 (cellsP p) 29 (cellsP zeroP)
  have hb2_0 := hid k2
  have hb3_0 := hid k3
  have hb4_0 := hid k4
  clear k2 k3 k4
  go_enter Tryz.func24, Tryz.ntmps24
  (repeat ((fail_if_success (with_reducible refine Go.at_region ?_)); go_step))
  refine wp_region_lit ?_
  (refine wpList_box 24 (.tmp 0) rfl rfl (cellsW n) rfl ?_; simp only [Act.put, pvA, pv0, pv1]; (try simp only [World.size_alloc]))
  (refine wpList_box 29 (.tmp 1) rfl rfl (cellsP p) rfl ?_; simp only [Act.put, pvA, pv0, pv1]; (try simp only [World.size_alloc]))
  (refine wpList_alloc_new rfl 29 rfl (cellsP zeroP) zPe ?_; simp only [Act.put, pvA, pv0, pv1]; (try simp only [World.size_alloc]))
  refine wpList_nil ?_
  rw [← hw0]
  clear hw0
  (repeat ((fail_if_success (with_reducible refine Go.at_region ?_)); go_step))
  refine list_all ?_
  (refine calm_whole rfl 29 (.tmp 3) rfl (w.heap.size + 1) rfl 29 (cellsP p) hb3_0.out gPe (iPe p) ?_; simp only [Act.put, pvA, pv0, pv1])
  (apply calm_on rfl; (focus (intro W hB; go_simp; refine (ca.out W).mono ?_; rintro _ _ ⟨rfl, hb'⟩; exact ⟨rfl, hb'⟩)); simp only [Act.put, pvA, pv0, pv1])
  (apply calm_on rfl; (focus (intro W hB; go_simp; exact ⟨rfl, Below.refl _ _⟩)); simp only [Act.put, pvA, pv0, pv1])
  refine calm_nil ?_
  intro w1 hs1
  (try dsimp only)
  have hb2_1 := hid (hb2_0.out.step hs1)
  have hb3_1 := hid (hb3_0.out.step hs1)
  have hb4_1 := hid (hb4_0.out.step hs1)
  have hbl1 := hbl0.trans (hs1.mono hbl0.size)
  clear hs1 hbl0 hb2_0 hb3_0 hb4_0
  (repeat ((fail_if_success (with_reducible refine Go.at_region ?_)); go_step))
  refine list_tail 1 ?_
  simp only [List.take_succ_cons, List.take_zero]
  (refine calm_build rfl 29 _ rfl (cellsP zeroP) (by first | (simp only [List.map_toArray, List.map_cons, List.map_nil]; exact bzPe) | exact bzPe) ?_; simp only [Act.put, pvA, pv0, pv1])
  refine calm_nil ?_
  intro wx2 hx2
  simp only [List.drop_succ_cons, List.drop_zero]
  (try simp only [Act.put, pvA, pv0, pv1])
  have fb2 := hb2_1.out.step hx2
  have fb3 := hb3_1.out.step hx2
  have fb4 := hb4_1.out.step hx2
  have hbb := hbl1.trans (hx2.mono hbl1.size)
  refine wpList_set 29 (.tmp 4) (.tmp 8) rfl rfl rfl (w.heap.size + 1 + 1) (cellsP zeroP) rfl rfl 29 (cellsP zeroP) fb4 (iPe zeroP) rfl (one_cellsP zeroP) ?_
  replace fb2 := fb2.other (show w.heap.size ≠ (w.heap.size + 1 + 1) by omega) (cellsP zeroP)
  replace fb3 := fb3.other (show (w.heap.size + 1) ≠ (w.heap.size + 1 + 1) by omega) (cellsP zeroP)
  replace fb4 := fb4.set (cellsP zeroP)
  replace hbb := below_set hbb (w.heap.size + 1 + 1) (by omega) (cellsP zeroP)
  refine wpList_nil ?_
  obtain ⟨w2, hw⟩ : ∃ z, z = (wx2.setRow (w.heap.size + 1 + 1) (cellsP zeroP)) := ⟨_, rfl⟩
  rw [← hw] at hbb fb2 fb3 fb4 ⊢
  have hb2_2 := hid fb2
  have hb3_2 := hid fb3
  have hb4_2 := hid fb4
  have hbl2 := hbb
  clear hw hbb fb2 fb3 fb4 hx2 hbl1 hb2_1 hb3_1 hb4_1 
  (repeat ((fail_if_success (with_reducible refine Go.at_region ?_)); go_step))
  refine ret_blk (w.heap.size + 1 + 1) 29 (cellsP zeroP) rfl rfl hb4_2.out gPe (iPe zeroP) rfl ?_
  exact ⟨rfl, hbl2⟩
set_option maxRecDepth 100000 in
set_option maxHeartbeats 4000000 in
theorem mul_on (n : Nat) (p : P2) (w : World) (hp : LtP p) (h1 : onB p = true) : Calls Tryz.prog 24 #[wd n, pt p] w fun e w' => e = .returned (pt (pointW (mW n (widenW p)))) ∧ Below w.heap.size w w' := by
  have ca := hid fun w => on_any p w hp
  rw [h1] at ca
  have c1 := hid fun w => widen_any p w hp
  have t1 := widenW_t p hp
  obtain ⟨r1, e1⟩ : ∃ r, r = widenW p := ⟨_, rfl⟩
  rw [← e1] at c1 t1
  replace t1 := hid t1
  have E1 := hid e1
  clear e1
  have c2 := hid fun w => timesW_any r1 n w t1.out
  have t2 := mW_t n r1 t1.out
  obtain ⟨r2, e2⟩ : ∃ r, r = mW n r1 := ⟨_, rfl⟩
  rw [← e2] at c2 t2
  replace t2 := hid t2
  have E2 := hid e2
  clear e2
  have c3 := hid fun w => pointW_any r2 w t2.out
  obtain ⟨r3, e3⟩ : ∃ r, r = pointW r2 := ⟨_, rfl⟩
  rw [← e3] at c3
  have E3 := hid e3
  clear e3
  clear hp h1
  unfold pt w4 wd at *
  obtain ⟨w0, hw0, k2, k3, k4, hbl0⟩ := entry3 w 24 (cellsW n) 29 (cellsP p) 29 (cellsP zeroP)
  have hb2_0 := hid k2
  have hb3_0 := hid k3
  have hb4_0 := hid k4
  clear k2 k3 k4
  go_enter Tryz.func24, Tryz.ntmps24
  (repeat ((fail_if_success (with_reducible refine Go.at_region ?_)); go_step))
  refine wp_region_lit ?_
  (refine wpList_box 24 (.tmp 0) rfl rfl (cellsW n) rfl ?_; simp only [Act.put, pvA, pv0, pv1]; (try simp only [World.size_alloc]))
  (refine wpList_box 29 (.tmp 1) rfl rfl (cellsP p) rfl ?_; simp only [Act.put, pvA, pv0, pv1]; (try simp only [World.size_alloc]))
  (refine wpList_alloc_new rfl 29 rfl (cellsP zeroP) zPe ?_; simp only [Act.put, pvA, pv0, pv1]; (try simp only [World.size_alloc]))
  refine wpList_nil ?_
  rw [← hw0]
  clear hw0
  (repeat ((fail_if_success (with_reducible refine Go.at_region ?_)); go_step))
  refine list_all ?_
  (refine calm_whole rfl 29 (.tmp 3) rfl (w.heap.size + 1) rfl 29 (cellsP p) hb3_0.out gPe (iPe p) ?_; simp only [Act.put, pvA, pv0, pv1])
  (apply calm_on rfl; (focus (intro W hB; go_simp; refine (ca.out W).mono ?_; rintro _ _ ⟨rfl, hb'⟩; exact ⟨rfl, hb'⟩)); simp only [Act.put, pvA, pv0, pv1])
  (apply calm_on rfl; (focus (intro W hB; go_simp; exact ⟨rfl, Below.refl _ _⟩)); simp only [Act.put, pvA, pv0, pv1])
  refine calm_nil ?_
  intro w1 hs1
  (try dsimp only)
  have hb2_1 := hid (hb2_0.out.step hs1)
  have hb3_1 := hid (hb3_0.out.step hs1)
  have hb4_1 := hid (hb4_0.out.step hs1)
  have hbl1 := hbl0.trans (hs1.mono hbl0.size)
  clear hs1 hbl0 hb2_0 hb3_0 hb4_0
  (repeat ((fail_if_success (with_reducible refine Go.at_region ?_)); go_step))
  refine draw_tail 5 (by kernel_rfl) (by kernel_rfl) (by kernel_rfl) ?_
  simp only [List.take_succ_cons, List.take_zero]
  (refine calm_whole rfl 29 (.tmp 3) rfl (w.heap.size + 1) rfl 29 (cellsP p) hb3_1.out gPe (iPe p) ?_; simp only [Act.put, pvA, pv0, pv1])
  (apply calm_on rfl; (focus (intro W hB; go_simp; refine (c1.out W).mono ?_; rintro _ _ ⟨rfl, hb'⟩; exact ⟨rfl, hb'⟩)); simp only [Act.put, pvA, pv0, pv1])
  (refine calm_whole rfl 24 (.tmp 2) rfl w.heap.size rfl 24 (cellsW n) hb2_1.out gWd (iW n) ?_; simp only [Act.put, pvA, pv0, pv1])
  (apply calm_on rfl; (focus (intro W hB; go_simp; refine (c2.out W).mono ?_; rintro _ _ ⟨rfl, hb'⟩; exact ⟨rfl, hb'⟩)); simp only [Act.put, pvA, pv0, pv1])
  (apply calm_on rfl; (focus (intro W hB; go_simp; refine (c3.out W).mono ?_; rintro _ _ ⟨rfl, hb'⟩; exact ⟨rfl, hb'⟩)); simp only [Act.put, pvA, pv0, pv1])
  refine calm_nil ?_
  intro wx2 hx2
  simp only [List.drop_succ_cons, List.drop_zero]
  (try simp only [Act.put, pvA, pv0, pv1])
  have fb2 := hb2_1.out.step hx2
  have fb3 := hb3_1.out.step hx2
  have fb4 := hb4_1.out.step hx2
  have hbb := hbl1.trans (hx2.mono hbl1.size)
  refine wpList_set 29 (.tmp 4) (.tmp 13) rfl rfl rfl (w.heap.size + 1 + 1) (cellsP r3) rfl rfl 29 (cellsP zeroP) fb4 (iPe r3) rfl (one_cellsP r3) ?_
  replace fb2 := fb2.other (show w.heap.size ≠ (w.heap.size + 1 + 1) by omega) (cellsP r3)
  replace fb3 := fb3.other (show (w.heap.size + 1) ≠ (w.heap.size + 1 + 1) by omega) (cellsP r3)
  replace fb4 := fb4.set (cellsP r3)
  replace hbb := below_set hbb (w.heap.size + 1 + 1) (by omega) (cellsP r3)
  refine wpList_nil ?_
  obtain ⟨w2, hw⟩ : ∃ z, z = (wx2.setRow (w.heap.size + 1 + 1) (cellsP r3)) := ⟨_, rfl⟩
  rw [← hw] at hbb fb2 fb3 fb4 ⊢
  have hb2_2 := hid fb2
  have hb3_2 := hid fb3
  have hb4_2 := hid fb4
  have hbl2 := hbb
  clear hw hbb fb2 fb3 fb4 hx2 hbl1 hb2_1 hb3_1 hb4_1 
  (repeat ((fail_if_success (with_reducible refine Go.at_region ?_)); go_step))
  refine ret_blk (w.heap.size + 1 + 1) 29 (cellsP r3) rfl rfl hb4_2.out gPe (iPe r3) rfl ?_
  exact ⟨(by rw [E3.out, E2.out, E1.out]; first | done | rfl), hbl2⟩
theorem mul_any (n : Nat) (p : P2) (w : World) (hp : LtP p) : Calls Tryz.prog 24 #[wd n, pt p] w fun e w' => e = .returned (pt (mulP n p)) ∧ Below w.heap.size w w' := by
  unfold mulP
  cases h1 : onB p with
  | false => exact mul_off n p w hp h1
  | true => exact mul_on n p w hp h1
end Go.Proofs.YtejnnghfelpioaaGreat
namespace Go.Proofs.YtejnnghfelpioaaGreat
open Go.RowKit
theorem smG_lt (a : G16) : smG a < 2 ^ 256 := by
  have h1 : 0 ≤ val a.l % pI := Int.emod_nonneg _ (by decide +kernel)
  have h2 : val a.l % pI < pI := Int.emod_lt_of_pos _ (by decide +kernel)
  have h3 : pI < 2 ^ 256 := by decide +kernel
  unfold smG; omega
def smB (x : Nat) : Bool := decide (smG (dgG x) = x)
def x2G (p : P2) : G16 := timG (dgG p.x) (dgG p.x)
def y2G (p : P2) : G16 := timG (dgG p.y) (dgG p.y)
def onLG (p : P2) : Nat := smG (minsG (y2G p) (x2G p))
def onRG (p : P2) : Nat := smG (plusG oneG (timG dG (timG (x2G p) (y2G p))))
def onG (p : P2) : Bool := (smB p.x && smB p.y) && decide (onLG p = onRG p)
def raddP (a b : P2) : P2 := if (onG a && onG b) = true then closeG (sumG (openG a) (openG b)) else zeroP
set_option maxRecDepth 100000 in
set_option maxHeartbeats 4000000 in
theorem rsmall_any (x : Nat) (w : World) (hx : x < 2 ^ 256) : Calls Tryz.prog 67 #[wd x] w fun e w' => e = .returned (.bool (smB x)) ∧ Below w.heap.size w w' := by
  unfold smB
  have c1 := hid fun w => dgG_any x w hx
  have t1 := dgG_bd x
  obtain ⟨r1, e1⟩ : ∃ r, r = dgG x := ⟨_, rfl⟩
  rw [← e1] at c1 t1
  replace t1 := hid t1
  have E1 := hid e1
  clear e1
  have c2 := hid fun w => smG_any r1 w (Gd.mono t1.out (by decide))
  obtain ⟨r2, e2⟩ : ∃ r, r = smG r1 := ⟨_, rfl⟩
  rw [← e2] at c2
  have E2 := hid e2
  clear e2
  have hq := eq_wd r2 x (by rw [E2.out]; exact smG_lt _) hx
  rw [← E1.out, ← E2.out]
  obtain ⟨res, hres⟩ : ∃ b, b = decide (r2 = x) := ⟨_, rfl⟩
  rw [← hres] at hq ⊢
  clear hx hres
  unfold gf wd at *
  obtain ⟨w0, hw0, k1, hbl0⟩ := entry1 w 24 (cellsW x)
  have hb1_0 := hid k1
  clear k1
  go_enter Tryz.func67, Tryz.ntmps67
  (repeat ((fail_if_success (with_reducible refine Go.at_region ?_)); go_step))
  refine wp_region_lit ?_
  (refine wpList_box 24 (.tmp 0) rfl rfl (cellsW x) rfl ?_; simp only [Act.put, pvA, pv0, pv1]; (try simp only [World.size_alloc]))
  (refine wpList_plain rfl fun K hK => ?_; go_simp; refine hK _ _ ?_; clear hK K; (try simp only [Act.put, pvA, pv0, pv1]))
  refine wpList_nil ?_
  rw [← hw0]
  clear hw0
  (repeat ((fail_if_success (with_reducible refine Go.at_region ?_)); go_step))
  refine draw_all (by kernel_rfl) (by kernel_rfl) (by kernel_rfl) ?_
  (refine calm_whole rfl 24 (.tmp 1) rfl w.heap.size rfl 24 (cellsW x) hb1_0.out gWd (iW x) ?_; simp only [Act.put, pvA, pv0, pv1])
  (apply calm_on rfl; (focus (intro W hB; go_simp; refine (c1.out W).mono ?_; rintro _ _ ⟨rfl, hb'⟩; exact ⟨rfl, hb'⟩)); simp only [Act.put, pvA, pv0, pv1])
  (apply calm_on rfl; (focus (intro W hB; go_simp; refine (c2.out W).mono ?_; rintro _ _ ⟨rfl, hb'⟩; exact ⟨rfl, hb'⟩)); simp only [Act.put, pvA, pv0, pv1])
  (refine calm_whole rfl 24 (.tmp 1) rfl w.heap.size rfl 24 (cellsW x) hb1_0.out gWd (iW x) ?_; simp only [Act.put, pvA, pv0, pv1])
  iterate 2 (apply calm_on rfl; (focus (intro W hB; go_simp; exact ⟨rfl, Below.refl _ _⟩)); simp only [Act.put, pvA, pv0, pv1])
  refine calm_nil ?_
  intro w1 hs1
  (try dsimp only)
  have hb1_1 := hid (hb1_0.out.step hs1)
  have hbl1 := hbl0.trans (hs1.mono hbl0.size)
  clear hs1 hbl0 hb1_0
  (repeat ((fail_if_success (with_reducible refine Go.at_region ?_)); go_step))
  go_ret
  exact ⟨rfl, hbl1⟩
set_option maxRecDepth 100000 in
set_option maxHeartbeats 4000000 in
theorem ron_x (p : P2) (w : World) (hp : LtP p) (hx : smB p.x = false) : Calls Tryz.prog 21 #[pt p] w fun e w' => e = .returned (.bool false) ∧ Below w.heap.size w w' := by
  have cx := hid fun w => rsmall_any p.x w hp.x
  have cy := hid fun w => rsmall_any p.y w hp.y
  rw [hx] at cx
  clear hp hx cy
  unfold pt wd at *
  obtain ⟨w0, hw0, k1, hbl0⟩ := entry1 w 26 (cellsP p)
  have hb1_0 := hid k1
  clear k1
  go_enter Tryz.func21, Tryz.ntmps21
  (repeat ((fail_if_success (with_reducible refine Go.at_region ?_)); go_step))
  refine wp_region_lit ?_
  (refine wpList_box 26 (.tmp 0) rfl rfl (cellsP p) rfl ?_; simp only [Act.put, pvA, pv0, pv1]; (try simp only [World.size_alloc]))
  (refine wpList_plain rfl fun K hK => ?_; go_simp; refine hK _ _ ?_; clear hK K; (try simp only [Act.put, pvA, pv0, pv1]))
  refine wpList_nil ?_
  rw [← hw0]
  clear hw0
  (repeat ((fail_if_success (with_reducible refine Go.at_region ?_)); go_step))
  refine list_all ?_
  (apply calm_on rfl; (focus (intro W hB; go_simp; exact ⟨rfl, Below.refl _ _⟩)); simp only [Act.put, pvA, pv0, pv1])
  (refine calm_part rfl 24 (.tmp 7) rfl w.heap.size 0 rfl 26 (cellsP p) (cellsW (p).x) hb1_0.out (inP_x p) gWd (iW (p).x) ?_; simp only [Act.put, pvA, pv0, pv1])
  (apply calm_on rfl; (focus (intro W hB; go_simp; refine (cx.out W).mono ?_; rintro _ _ ⟨rfl, hb'⟩; exact ⟨rfl, hb'⟩)); simp only [Act.put, pvA, pv0, pv1])
  iterate 2 (apply calm_on rfl; (focus (intro W hB; go_simp; exact ⟨rfl, Below.refl _ _⟩)); simp only [Act.put, pvA, pv0, pv1])
  iterate 4 (refine calm_off rfl ?_; simp only [Act.put, pvA, pv0, pv1])
  (apply calm_on rfl; (focus (intro W hB; go_simp; exact ⟨rfl, Below.refl _ _⟩)); simp only [Act.put, pvA, pv0, pv1])
  refine calm_nil ?_
  intro w1 hs1
  (try dsimp only)
  have hb1_1 := hid (hb1_0.out.step hs1)
  have hbl1 := hbl0.trans (hs1.mono hbl0.size)
  clear hs1 hbl0 hb1_0
  (repeat ((fail_if_success (with_reducible refine Go.at_region ?_)); go_step))
  refine list_all ?_
  (apply calm_on rfl; (focus (intro W hB; go_simp; exact ⟨rfl, Below.refl _ _⟩)); simp only [Act.put, pvA, pv0, pv1])
  refine calm_nil ?_
  intro w2 hs2
  (try dsimp only)
  have hb1_2 := hid (hb1_1.out.step hs2)
  have hbl2 := hbl1.trans (hs2.mono hbl1.size)
  clear hs2 hbl1 hb1_1
  (repeat ((fail_if_success (with_reducible refine Go.at_region ?_)); go_step))
  go_ret
  exact ⟨rfl, hbl2⟩
set_option maxRecDepth 100000 in
set_option maxHeartbeats 4000000 in
theorem ron_y (p : P2) (w : World) (hp : LtP p) (hx : smB p.x = true) (hy : smB p.y = false) : Calls Tryz.prog 21 #[pt p] w fun e w' => e = .returned (.bool false) ∧ Below w.heap.size w w' := by
  have cx := hid fun w => rsmall_any p.x w hp.x
  have cy := hid fun w => rsmall_any p.y w hp.y
  rw [hx] at cx
  rw [hy] at cy
  clear hp hx hy
  unfold pt wd at *
  obtain ⟨w0, hw0, k1, hbl0⟩ := entry1 w 26 (cellsP p)
  have hb1_0 := hid k1
  clear k1
  go_enter Tryz.func21, Tryz.ntmps21
  (repeat ((fail_if_success (with_reducible refine Go.at_region ?_)); go_step))
  refine wp_region_lit ?_
  (refine wpList_box 26 (.tmp 0) rfl rfl (cellsP p) rfl ?_; simp only [Act.put, pvA, pv0, pv1]; (try simp only [World.size_alloc]))
  (refine wpList_plain rfl fun K hK => ?_; go_simp; refine hK _ _ ?_; clear hK K; (try simp only [Act.put, pvA, pv0, pv1]))
  refine wpList_nil ?_
  rw [← hw0]
  clear hw0
  (repeat ((fail_if_success (with_reducible refine Go.at_region ?_)); go_step))
  refine list_all ?_
  (apply calm_on rfl; (focus (intro W hB; go_simp; exact ⟨rfl, Below.refl _ _⟩)); simp only [Act.put, pvA, pv0, pv1])
  (refine calm_part rfl 24 (.tmp 7) rfl w.heap.size 0 rfl 26 (cellsP p) (cellsW (p).x) hb1_0.out (inP_x p) gWd (iW (p).x) ?_; simp only [Act.put, pvA, pv0, pv1])
  (apply calm_on rfl; (focus (intro W hB; go_simp; refine (cx.out W).mono ?_; rintro _ _ ⟨rfl, hb'⟩; exact ⟨rfl, hb'⟩)); simp only [Act.put, pvA, pv0, pv1])
  iterate 3 (apply calm_on rfl; (focus (intro W hB; go_simp; exact ⟨rfl, Below.refl _ _⟩)); simp only [Act.put, pvA, pv0, pv1])
  (refine calm_part rfl 24 (.tmp 12) rfl w.heap.size 4 rfl 26 (cellsP p) (cellsW (p).y) hb1_0.out (inP_y p) gWd (iW (p).y) ?_; simp only [Act.put, pvA, pv0, pv1])
  (apply calm_on rfl; (focus (intro W hB; go_simp; refine (cy.out W).mono ?_; rintro _ _ ⟨rfl, hb'⟩; exact ⟨rfl, hb'⟩)); simp only [Act.put, pvA, pv0, pv1])
  iterate 2 (apply calm_on rfl; (focus (intro W hB; go_simp; exact ⟨rfl, Below.refl _ _⟩)); simp only [Act.put, pvA, pv0, pv1])
  refine calm_nil ?_
  intro w1 hs1
  (try dsimp only)
  have hb1_1 := hid (hb1_0.out.step hs1)
  have hbl1 := hbl0.trans (hs1.mono hbl0.size)
  clear hs1 hbl0 hb1_0
  (repeat ((fail_if_success (with_reducible refine Go.at_region ?_)); go_step))
  refine list_all ?_
  (apply calm_on rfl; (focus (intro W hB; go_simp; exact ⟨rfl, Below.refl _ _⟩)); simp only [Act.put, pvA, pv0, pv1])
  refine calm_nil ?_
  intro w2 hs2
  (try dsimp only)
  have hb1_2 := hid (hb1_1.out.step hs2)
  have hbl2 := hbl1.trans (hs2.mono hbl1.size)
  clear hs2 hbl1 hb1_1
  (repeat ((fail_if_success (with_reducible refine Go.at_region ?_)); go_step))
  go_ret
  exact ⟨rfl, hbl2⟩
set_option maxRecDepth 100000 in
set_option maxHeartbeats 4000000 in
theorem ron_on (p : P2) (w : World) (hp : LtP p) (hx : smB p.x = true) (hy : smB p.y = true) : Calls Tryz.prog 21 #[pt p] w fun e w' => e = .returned (.bool (decide (onLG p = onRG p))) ∧ Below w.heap.size w w' := by
  have cx := hid fun w => rsmall_any p.x w hp.x
  have cy := hid fun w => rsmall_any p.y w hp.y
  rw [hx] at cx
  rw [hy] at cy
  unfold onLG onRG x2G y2G
  have hz1 := oneG_bd
  have hzd := dG_bd
  have c1 := hid fun w => dgG_any p.x w hp.x
  have t1 := dgG_bd p.x
  obtain ⟨r1, e1⟩ : ∃ r, r = dgG p.x := ⟨_, rfl⟩
  rw [← e1] at c1 t1
  replace t1 := hid t1
  have E1 := hid e1
  clear e1
  have c2 := hid fun w => dgG_any p.y w hp.y
  have t2 := dgG_bd p.y
  obtain ⟨r2, e2⟩ : ∃ r, r = dgG p.y := ⟨_, rfl⟩
  rw [← e2] at c2 t2
  replace t2 := hid t2
  have E2 := hid e2
  clear e2
  have c3 := hid fun w => timG_any r1 r1 w (Gd.mono t1.out (by decide)) (Gd.mono t1.out (by decide))
  have t3 := timG_bd w r1 r1 (Gd.mono t1.out (by decide)) (Gd.mono t1.out (by decide))
  obtain ⟨r3, e3⟩ : ∃ r, r = timG r1 r1 := ⟨_, rfl⟩
  rw [← e3] at c3 t3
  replace t3 := hid t3
  have E3 := hid e3
  clear e3
  have c4 := hid fun w => timG_any r2 r2 w (Gd.mono t2.out (by decide)) (Gd.mono t2.out (by decide))
  have t4 := timG_bd w r2 r2 (Gd.mono t2.out (by decide)) (Gd.mono t2.out (by decide))
  obtain ⟨r4, e4⟩ : ∃ r, r = timG r2 r2 := ⟨_, rfl⟩
  rw [← e4] at c4 t4
  replace t4 := hid t4
  have E4 := hid e4
  clear e4
  have c5 := hid fun w => minsG_any r4 r3 w (Gd.mono t4.out (by decide)) (Gd.mono t3.out (by decide))
  have t5 := minsG_bd _ _ r4 r3 t4.out t3.out
  obtain ⟨r5, e5⟩ : ∃ r, r = minsG r4 r3 := ⟨_, rfl⟩
  rw [← e5] at c5 t5
  replace t5 := hid t5
  have E5 := hid e5
  clear e5
  have c6 := hid fun w => smG_any r5 w (Gd.mono t5.out (by decide))
  obtain ⟨r6, e6⟩ : ∃ r, r = smG r5 := ⟨_, rfl⟩
  rw [← e6] at c6
  have E6 := hid e6
  clear e6
  have cd := hid fun w => rd_any w
  have c7 := hid fun w => timG_any r3 r4 w (Gd.mono t3.out (by decide)) (Gd.mono t4.out (by decide))
  have t7 := timG_bd w r3 r4 (Gd.mono t3.out (by decide)) (Gd.mono t4.out (by decide))
  obtain ⟨r7, e7⟩ : ∃ r, r = timG r3 r4 := ⟨_, rfl⟩
  rw [← e7] at c7 t7
  replace t7 := hid t7
  have E7 := hid e7
  clear e7
  have c8 := hid fun w => timG_any dG r7 w (Gd.mono hzd (by decide)) (Gd.mono t7.out (by decide))
  have t8 := timG_bd w dG r7 (Gd.mono hzd (by decide)) (Gd.mono t7.out (by decide))
  obtain ⟨r8, e8⟩ : ∃ r, r = timG dG r7 := ⟨_, rfl⟩
  rw [← e8] at c8 t8
  replace t8 := hid t8
  have E8 := hid e8
  clear e8
  have c9 := hid fun w => plusG_any oneG r8 w (Gd.mono hz1 (by decide)) (Gd.mono t8.out (by decide))
  have t9 := plusG_bd _ _ oneG r8 hz1 t8.out
  obtain ⟨r9, e9⟩ : ∃ r, r = plusG oneG r8 := ⟨_, rfl⟩
  rw [← e9] at c9 t9
  replace t9 := hid t9
  have E9 := hid e9
  clear e9
  have c10 := hid fun w => smG_any r9 w (Gd.mono t9.out (by decide))
  obtain ⟨r10, e10⟩ : ∃ r, r = smG r9 := ⟨_, rfl⟩
  rw [← e10] at c10
  have E10 := hid e10
  clear e10
  have hq := eq_wd r6 r10 (by rw [E6.out]; exact smG_lt _) (by rw [E10.out]; exact smG_lt _)
  rw [← E1.out, ← E2.out, ← E3.out, ← E4.out, ← E5.out, ← E6.out, ← E7.out, ← E8.out, ← E9.out, ← E10.out]
  obtain ⟨res, hres⟩ : ∃ b, b = decide (r6 = r10) := ⟨_, rfl⟩
  rw [← hres] at hq ⊢
  clear hp hx hy hres hz1 hzd
  unfold gf pt wd at *
  obtain ⟨w0, hw0, k1, hbl0⟩ := entry1 w 26 (cellsP p)
  have hb1_0 := hid k1
  clear k1
  go_enter Tryz.func21, Tryz.ntmps21
  (repeat ((fail_if_success (with_reducible refine Go.at_region ?_)); go_step))
  refine wp_region_lit ?_
  (refine wpList_box 26 (.tmp 0) rfl rfl (cellsP p) rfl ?_; simp only [Act.put, pvA, pv0, pv1]; (try simp only [World.size_alloc]))
  (refine wpList_plain rfl fun K hK => ?_; go_simp; refine hK _ _ ?_; clear hK K; (try simp only [Act.put, pvA, pv0, pv1]))
  refine wpList_nil ?_
  rw [← hw0]
  clear hw0
  (repeat ((fail_if_success (with_reducible refine Go.at_region ?_)); go_step))
  refine list_all ?_
  (apply calm_on rfl; (focus (intro W hB; go_simp; exact ⟨rfl, Below.refl _ _⟩)); simp only [Act.put, pvA, pv0, pv1])
  (refine calm_part rfl 24 (.tmp 7) rfl w.heap.size 0 rfl 26 (cellsP p) (cellsW (p).x) hb1_0.out (inP_x p) gWd (iW (p).x) ?_; simp only [Act.put, pvA, pv0, pv1])
  (apply calm_on rfl; (focus (intro W hB; go_simp; refine (cx.out W).mono ?_; rintro _ _ ⟨rfl, hb'⟩; exact ⟨rfl, hb'⟩)); simp only [Act.put, pvA, pv0, pv1])
  iterate 3 (apply calm_on rfl; (focus (intro W hB; go_simp; exact ⟨rfl, Below.refl _ _⟩)); simp only [Act.put, pvA, pv0, pv1])
  (refine calm_part rfl 24 (.tmp 12) rfl w.heap.size 4 rfl 26 (cellsP p) (cellsW (p).y) hb1_0.out (inP_y p) gWd (iW (p).y) ?_; simp only [Act.put, pvA, pv0, pv1])
  (apply calm_on rfl; (focus (intro W hB; go_simp; refine (cy.out W).mono ?_; rintro _ _ ⟨rfl, hb'⟩; exact ⟨rfl, hb'⟩)); simp only [Act.put, pvA, pv0, pv1])
  iterate 2 (apply calm_on rfl; (focus (intro W hB; go_simp; exact ⟨rfl, Below.refl _ _⟩)); simp only [Act.put, pvA, pv0, pv1])
  refine calm_nil ?_
  intro w1 hs1
  (try dsimp only)
  have hb1_1 := hid (hb1_0.out.step hs1)
  have hbl1 := hbl0.trans (hs1.mono hbl0.size)
  clear hs1 hbl0 hb1_0
  (repeat ((fail_if_success (with_reducible refine Go.at_region ?_)); go_step))
  refine draw_new2 6 _ _ rfl 68 68 (cellsG zeroG) (cellsG zeroG) 3 4 rfl rfl rfl (by simp) zG rfl rfl rfl (by simp) zG (by decide) (by kernel_rfl) (by kernel_rfl) (by kernel_rfl) (by kernel_rfl) ?_
  simp only [List.take_succ_cons, List.take_zero]
  (apply calm_on rfl; (focus (intro W hB; go_simp; exact ⟨rfl, Below.refl _ _⟩)); simp only [Act.put, pvA, pv0, pv1])
  (refine calm_part rfl 24 (.tmp 17) rfl w.heap.size 0 rfl 26 (cellsP p) (cellsW (p).x) hb1_1.out (inP_x p) gWd (iW (p).x) ?_; simp only [Act.put, pvA, pv0, pv1])
  (apply calm_on rfl; (focus (intro W hB; go_simp; refine (c1.out W).mono ?_; rintro _ _ ⟨rfl, hb'⟩; exact ⟨rfl, hb'⟩)); simp only [Act.put, pvA, pv0, pv1])
  (apply calm_on rfl; (focus (intro W hB; go_simp; exact ⟨rfl, Below.refl _ _⟩)); simp only [Act.put, pvA, pv0, pv1])
  (refine calm_part rfl 24 (.tmp 20) rfl w.heap.size 4 rfl 26 (cellsP p) (cellsW (p).y) hb1_1.out (inP_y p) gWd (iW (p).y) ?_; simp only [Act.put, pvA, pv0, pv1])
  (apply calm_on rfl; (focus (intro W hB; go_simp; refine (c2.out W).mono ?_; rintro _ _ ⟨rfl, hb'⟩; exact ⟨rfl, hb'⟩)); simp only [Act.put, pvA, pv0, pv1])
  refine calm_nil ?_
  intro bk3 bk4 wx2 hle3 hle4 hne3 hx2 hn3 hn4
  simp only [List.drop_succ_cons, List.drop_zero]
  (try simp only [Act.put, pvA, pv0, pv1])
  have fb1 := hb1_1.out.step hx2
  have hbb := hbl1.trans (hx2.mono hbl1.size)
  have fb3 := hn3
  have fb4 := hn4
  have ne1_3 : w.heap.size ≠ bk3 := by have := hb1_1.out.lt; omega
  have ne1_4 : w.heap.size ≠ bk4 := by have := hb1_1.out.lt; omega
  have ge3 : w.heap.size ≤ bk3 := Nat.le_trans hbl1.size hle3
  have ge4 : w.heap.size ≤ bk4 := Nat.le_trans hbl1.size hle4
  refine wpList_set 68 (.tmp 3) (.tmp 19) rfl rfl rfl bk3 (cellsG r1) rfl rfl 68 (cellsG zeroG) fb3 (iG r1) rfl (one_cellsG r1) ?_
  replace fb1 := fb1.other ne1_3 (cellsG r1)
  replace fb3 := fb3.set (cellsG r1)
  replace fb4 := fb4.other (Ne.symm hne3) (cellsG r1)
  replace hbb := below_set hbb bk3 (ge3) (cellsG r1)
  refine wpList_set 68 (.tmp 4) (.tmp 22) rfl rfl rfl bk4 (cellsG r2) rfl rfl 68 (cellsG zeroG) fb4 (iG r2) rfl (one_cellsG r2) ?_
  replace fb1 := fb1.other ne1_4 (cellsG r2)
  replace fb3 := fb3.other hne3 (cellsG r2)
  replace fb4 := fb4.set (cellsG r2)
  replace hbb := below_set hbb bk4 (ge4) (cellsG r2)
  refine wpList_nil ?_
  obtain ⟨w2, hw⟩ : ∃ z, z = ((wx2.setRow bk3 (cellsG r1)).setRow bk4 (cellsG r2)) := ⟨_, rfl⟩
  rw [← hw] at hbb fb1 fb3 fb4 ⊢
  have hb1_2 := hid fb1
  have hb3_2 := hid fb3
  have hb4_2 := hid fb4
  have hbl2 := hbb
  clear hw hbb fb1 fb3 fb4 hx2 hbl1 hb1_1 hle3 hn3 hle4 hn4
  (repeat ((fail_if_success (with_reducible refine Go.at_region ?_)); go_step))
  refine draw_new2 6 _ _ rfl 68 68 (cellsG zeroG) (cellsG zeroG) 5 6 rfl rfl rfl (by simp) zG rfl rfl rfl (by simp) zG (by decide) (by kernel_rfl) (by kernel_rfl) (by kernel_rfl) (by kernel_rfl) ?_
  simp only [List.take_succ_cons, List.take_zero]
  iterate 2 (refine calm_whole rfl 68 (.tmp 3) rfl bk3 rfl 68 (cellsG r1) hb3_2.out gG (iG r1) ?_; simp only [Act.put, pvA, pv0, pv1])
  (apply calm_on rfl; (focus (intro W hB; go_simp; refine (c3.out W).mono ?_; rintro _ _ ⟨rfl, hb'⟩; exact ⟨rfl, hb'⟩)); simp only [Act.put, pvA, pv0, pv1])
  iterate 2 (refine calm_whole rfl 68 (.tmp 4) rfl bk4 rfl 68 (cellsG r2) hb4_2.out gG (iG r2) ?_; simp only [Act.put, pvA, pv0, pv1])
  (apply calm_on rfl; (focus (intro W hB; go_simp; refine (c4.out W).mono ?_; rintro _ _ ⟨rfl, hb'⟩; exact ⟨rfl, hb'⟩)); simp only [Act.put, pvA, pv0, pv1])
  refine calm_nil ?_
  intro bk5 bk6 wx3 hle5 hle6 hne5 hx3 hn5 hn6
  simp only [List.drop_succ_cons, List.drop_zero]
  (try simp only [Act.put, pvA, pv0, pv1])
  have fb1 := hb1_2.out.step hx3
  have fb3 := hb3_2.out.step hx3
  have fb4 := hb4_2.out.step hx3
  have hbb := hbl2.trans (hx3.mono hbl2.size)
  have fb5 := hn5
  have fb6 := hn6
  have ne1_5 : w.heap.size ≠ bk5 := by have := hb1_2.out.lt; omega
  have ne3_5 : bk3 ≠ bk5 := by have := hb3_2.out.lt; omega
  have ne4_5 : bk4 ≠ bk5 := by have := hb4_2.out.lt; omega
  have ne1_6 : w.heap.size ≠ bk6 := by have := hb1_2.out.lt; omega
  have ne3_6 : bk3 ≠ bk6 := by have := hb3_2.out.lt; omega
  have ne4_6 : bk4 ≠ bk6 := by have := hb4_2.out.lt; omega
  have ge5 : w.heap.size ≤ bk5 := Nat.le_trans hbl2.size hle5
  have ge6 : w.heap.size ≤ bk6 := Nat.le_trans hbl2.size hle6
  refine wpList_set 68 (.tmp 5) (.tmp 25) rfl rfl rfl bk5 (cellsG r3) rfl rfl 68 (cellsG zeroG) fb5 (iG r3) rfl (one_cellsG r3) ?_
  replace fb1 := fb1.other ne1_5 (cellsG r3)
  replace fb3 := fb3.other ne3_5 (cellsG r3)
  replace fb4 := fb4.other ne4_5 (cellsG r3)
  replace fb5 := fb5.set (cellsG r3)
  replace fb6 := fb6.other (Ne.symm hne5) (cellsG r3)
  replace hbb := below_set hbb bk5 (ge5) (cellsG r3)
  refine wpList_set 68 (.tmp 6) (.tmp 28) rfl rfl rfl bk6 (cellsG r4) rfl rfl 68 (cellsG zeroG) fb6 (iG r4) rfl (one_cellsG r4) ?_
  replace fb1 := fb1.other ne1_6 (cellsG r4)
  replace fb3 := fb3.other ne3_6 (cellsG r4)
  replace fb4 := fb4.other ne4_6 (cellsG r4)
  replace fb5 := fb5.other hne5 (cellsG r4)
  replace fb6 := fb6.set (cellsG r4)
  replace hbb := below_set hbb bk6 (ge6) (cellsG r4)
  refine wpList_nil ?_
  obtain ⟨w3, hw⟩ : ∃ z, z = ((wx3.setRow bk5 (cellsG r3)).setRow bk6 (cellsG r4)) := ⟨_, rfl⟩
  rw [← hw] at hbb fb1 fb3 fb4 fb5 fb6 ⊢
  have hb1_3 := hid fb1
  have hb3_3 := hid fb3
  have hb4_3 := hid fb4
  have hb5_3 := hid fb5
  have hb6_3 := hid fb6
  have hbl3 := hbb
  clear hw hbb fb1 fb3 fb4 fb5 fb6 hx3 hbl2 hb1_2 hb3_2 hb4_2 hle5 hn5 hle6 hn6
  (repeat ((fail_if_success (with_reducible refine Go.at_region ?_)); go_step))
  refine draw_all (by kernel_rfl) (by kernel_rfl) (by kernel_rfl) ?_
  (refine calm_whole rfl 68 (.tmp 6) rfl bk6 rfl 68 (cellsG r4) hb6_3.out gG (iG r4) ?_; simp only [Act.put, pvA, pv0, pv1])
  (refine calm_whole rfl 68 (.tmp 5) rfl bk5 rfl 68 (cellsG r3) hb5_3.out gG (iG r3) ?_; simp only [Act.put, pvA, pv0, pv1])
  (apply calm_on rfl; (focus (intro W hB; go_simp; refine (c5.out W).mono ?_; rintro _ _ ⟨rfl, hb'⟩; exact ⟨rfl, hb'⟩)); simp only [Act.put, pvA, pv0, pv1])
  (apply calm_on rfl; (focus (intro W hB; go_simp; refine (c6.out W).mono ?_; rintro _ _ ⟨rfl, hb'⟩; exact ⟨rfl, hb'⟩)); simp only [Act.put, pvA, pv0, pv1])
  (refine calm_build rfl 68 _ rfl (cellsG oneG) (by first | (simp only [List.map_toArray, List.map_cons, List.map_nil]; exact bG1) | exact bG1) ?_; simp only [Act.put, pvA, pv0, pv1])
  (apply calm_on rfl; (focus (intro W hB; go_simp; refine (cd.out W).mono ?_; rintro _ _ ⟨rfl, hb'⟩; exact ⟨rfl, hb'⟩)); simp only [Act.put, pvA, pv0, pv1])
  (refine calm_whole rfl 68 (.tmp 5) rfl bk5 rfl 68 (cellsG r3) hb5_3.out gG (iG r3) ?_; simp only [Act.put, pvA, pv0, pv1])
  (refine calm_whole rfl 68 (.tmp 6) rfl bk6 rfl 68 (cellsG r4) hb6_3.out gG (iG r4) ?_; simp only [Act.put, pvA, pv0, pv1])
  (apply calm_on rfl; (focus (intro W hB; go_simp; refine (c7.out W).mono ?_; rintro _ _ ⟨rfl, hb'⟩; exact ⟨rfl, hb'⟩)); simp only [Act.put, pvA, pv0, pv1])
  (apply calm_on rfl; (focus (intro W hB; go_simp; refine (c8.out W).mono ?_; rintro _ _ ⟨rfl, hb'⟩; exact ⟨rfl, hb'⟩)); simp only [Act.put, pvA, pv0, pv1])
  (apply calm_on rfl; (focus (intro W hB; go_simp; refine (c9.out W).mono ?_; rintro _ _ ⟨rfl, hb'⟩; exact ⟨rfl, hb'⟩)); simp only [Act.put, pvA, pv0, pv1])
  (apply calm_on rfl; (focus (intro W hB; go_simp; refine (c10.out W).mono ?_; rintro _ _ ⟨rfl, hb'⟩; exact ⟨rfl, hb'⟩)); simp only [Act.put, pvA, pv0, pv1])
  iterate 2 (apply calm_on rfl; (focus (intro W hB; go_simp; exact ⟨rfl, Below.refl _ _⟩)); simp only [Act.put, pvA, pv0, pv1])
  refine calm_nil ?_
  intro w4 hs4
  (try dsimp only)
  have hb1_4 := hid (hb1_3.out.step hs4)
  have hb3_4 := hid (hb3_3.out.step hs4)
  have hb4_4 := hid (hb4_3.out.step hs4)
  have hb5_4 := hid (hb5_3.out.step hs4)
  have hb6_4 := hid (hb6_3.out.step hs4)
  have hbl4 := hbl3.trans (hs4.mono hbl3.size)
  clear hs4 hbl3 hb1_3 hb3_3 hb4_3 hb5_3 hb6_3
  (repeat ((fail_if_success (with_reducible refine Go.at_region ?_)); go_step))
  go_ret
  exact ⟨rfl, hbl4⟩
theorem ron_any (p : P2) (w : World) (hp : LtP p) : Calls Tryz.prog 21 #[pt p] w fun e w' => e = .returned (.bool (onG p)) ∧ Below w.heap.size w w' := by
  unfold onG
  cases hx : smB p.x with
  | false => exact ron_x p w hp hx
  | true =>
    cases hy : smB p.y with
    | false => exact ron_y p w hp hx hy
    | true => rw [Bool.true_and, Bool.true_and]; exact ron_on p w hp hx hy
theorem bzPr : Tryz.prog.built 26 [] = some (cellsP zeroP) := by kernel_rfl
set_option maxRecDepth 100000 in
set_option maxHeartbeats 4000000 in
theorem radd_a (a b : P2) (w : World) (ha : LtP a) (hb : LtP b) (ha1 : onG a = false) : Calls Tryz.prog 23 #[pt a, pt b] w fun e w' => e = .returned (pt zeroP) ∧ Below w.heap.size w w' := by
  have ca := hid fun w => ron_any a w ha
  have cb := hid fun w => ron_any b w hb
  rw [ha1] at ca
  clear ha hb ha1 cb
  unfold pt at *
  obtain ⟨w0, hw0, k2, k3, k4, hbl0⟩ := entry3 w 26 (cellsP a) 26 (cellsP b) 26 (cellsP zeroP)
  have hb2_0 := hid k2
  have hb3_0 := hid k3
  have hb4_0 := hid k4
  clear k2 k3 k4
  go_enter Tryz.func23, Tryz.ntmps23
  (repeat ((fail_if_success (with_reducible refine Go.at_region ?_)); go_step))
  refine wp_region_lit ?_
  (refine wpList_box 26 (.tmp 0) rfl rfl (cellsP a) rfl ?_; simp only [Act.put, pvA, pv0, pv1]; (try simp only [World.size_alloc]))
  (refine wpList_box 26 (.tmp 1) rfl rfl (cellsP b) rfl ?_; simp only [Act.put, pvA, pv0, pv1]; (try simp only [World.size_alloc]))
  (refine wpList_alloc_new rfl 26 rfl (cellsP zeroP) zPr ?_; simp only [Act.put, pvA, pv0, pv1]; (try simp only [World.size_alloc]))
  refine wpList_nil ?_
  rw [← hw0]
  clear hw0
  (repeat ((fail_if_success (with_reducible refine Go.at_region ?_)); go_step))
  refine list_all ?_
  (refine calm_whole rfl 26 (.tmp 2) rfl w.heap.size rfl 26 (cellsP a) hb2_0.out gPr (iPr a) ?_; simp only [Act.put, pvA, pv0, pv1])
  (apply calm_on rfl; (focus (intro W hB; go_simp; refine (ca.out W).mono ?_; rintro _ _ ⟨rfl, hb'⟩; exact ⟨rfl, hb'⟩)); simp only [Act.put, pvA, pv0, pv1])
  iterate 2 (apply calm_on rfl; (focus (intro W hB; go_simp; exact ⟨rfl, Below.refl _ _⟩)); simp only [Act.put, pvA, pv0, pv1])
  iterate 3 (refine calm_off rfl ?_; simp only [Act.put, pvA, pv0, pv1])
  (apply calm_on rfl; (focus (intro W hB; go_simp; exact ⟨rfl, Below.refl _ _⟩)); simp only [Act.put, pvA, pv0, pv1])
  refine calm_nil ?_
  intro w1 hs1
  (try dsimp only)
  have hb2_1 := hid (hb2_0.out.step hs1)
  have hb3_1 := hid (hb3_0.out.step hs1)
  have hb4_1 := hid (hb4_0.out.step hs1)
  have hbl1 := hbl0.trans (hs1.mono hbl0.size)
  clear hs1 hbl0 hb2_0 hb3_0 hb4_0
  (repeat ((fail_if_success (with_reducible refine Go.at_region ?_)); go_step))
  refine list_tail 1 ?_
  simp only [List.take_succ_cons, List.take_zero]
  (refine calm_build rfl 26 _ rfl (cellsP zeroP) (by first | (simp only [List.map_toArray, List.map_cons, List.map_nil]; exact bzPr) | exact bzPr) ?_; simp only [Act.put, pvA, pv0, pv1])
  refine calm_nil ?_
  intro wx2 hx2
  simp only [List.drop_succ_cons, List.drop_zero]
  (try simp only [Act.put, pvA, pv0, pv1])
  have fb2 := hb2_1.out.step hx2
  have fb3 := hb3_1.out.step hx2
  have fb4 := hb4_1.out.step hx2
  have hbb := hbl1.trans (hx2.mono hbl1.size)
  refine wpList_set 26 (.tmp 4) (.tmp 13) rfl rfl rfl (w.heap.size + 1 + 1) (cellsP zeroP) rfl rfl 26 (cellsP zeroP) fb4 (iPr zeroP) rfl (one_cellsP zeroP) ?_
  replace fb2 := fb2.other (show w.heap.size ≠ (w.heap.size + 1 + 1) by omega) (cellsP zeroP)
  replace fb3 := fb3.other (show (w.heap.size + 1) ≠ (w.heap.size + 1 + 1) by omega) (cellsP zeroP)
  replace fb4 := fb4.set (cellsP zeroP)
  replace hbb := below_set hbb (w.heap.size + 1 + 1) (by omega) (cellsP zeroP)
  refine wpList_nil ?_
  obtain ⟨w2, hw⟩ : ∃ z, z = (wx2.setRow (w.heap.size + 1 + 1) (cellsP zeroP)) := ⟨_, rfl⟩
  rw [← hw] at hbb fb2 fb3 fb4 ⊢
  have hb2_2 := hid fb2
  have hb3_2 := hid fb3
  have hb4_2 := hid fb4
  have hbl2 := hbb
  clear hw hbb fb2 fb3 fb4 hx2 hbl1 hb2_1 hb3_1 hb4_1 
  (repeat ((fail_if_success (with_reducible refine Go.at_region ?_)); go_step))
  refine ret_blk (w.heap.size + 1 + 1) 26 (cellsP zeroP) rfl rfl hb4_2.out gPr (iPr zeroP) rfl ?_
  exact ⟨rfl, hbl2⟩
set_option maxRecDepth 100000 in
set_option maxHeartbeats 4000000 in
theorem radd_b (a b : P2) (w : World) (ha : LtP a) (hb : LtP b) (ha1 : onG a = true) (hb1 : onG b = false) : Calls Tryz.prog 23 #[pt a, pt b] w fun e w' => e = .returned (pt zeroP) ∧ Below w.heap.size w w' := by
  have ca := hid fun w => ron_any a w ha
  have cb := hid fun w => ron_any b w hb
  rw [ha1] at ca
  rw [hb1] at cb
  clear ha hb ha1 hb1
  unfold pt at *
  obtain ⟨w0, hw0, k2, k3, k4, hbl0⟩ := entry3 w 26 (cellsP a) 26 (cellsP b) 26 (cellsP zeroP)
  have hb2_0 := hid k2
  have hb3_0 := hid k3
  have hb4_0 := hid k4
  clear k2 k3 k4
  go_enter Tryz.func23, Tryz.ntmps23
  (repeat ((fail_if_success (with_reducible refine Go.at_region ?_)); go_step))
  refine wp_region_lit ?_
  (refine wpList_box 26 (.tmp 0) rfl rfl (cellsP a) rfl ?_; simp only [Act.put, pvA, pv0, pv1]; (try simp only [World.size_alloc]))
  (refine wpList_box 26 (.tmp 1) rfl rfl (cellsP b) rfl ?_; simp only [Act.put, pvA, pv0, pv1]; (try simp only [World.size_alloc]))
  (refine wpList_alloc_new rfl 26 rfl (cellsP zeroP) zPr ?_; simp only [Act.put, pvA, pv0, pv1]; (try simp only [World.size_alloc]))
  refine wpList_nil ?_
  rw [← hw0]
  clear hw0
  (repeat ((fail_if_success (with_reducible refine Go.at_region ?_)); go_step))
  refine list_all ?_
  (refine calm_whole rfl 26 (.tmp 2) rfl w.heap.size rfl 26 (cellsP a) hb2_0.out gPr (iPr a) ?_; simp only [Act.put, pvA, pv0, pv1])
  (apply calm_on rfl; (focus (intro W hB; go_simp; refine (ca.out W).mono ?_; rintro _ _ ⟨rfl, hb'⟩; exact ⟨rfl, hb'⟩)); simp only [Act.put, pvA, pv0, pv1])
  iterate 2 (apply calm_on rfl; (focus (intro W hB; go_simp; exact ⟨rfl, Below.refl _ _⟩)); simp only [Act.put, pvA, pv0, pv1])
  (refine calm_whole rfl 26 (.tmp 3) rfl (w.heap.size + 1) rfl 26 (cellsP b) hb3_0.out gPr (iPr b) ?_; simp only [Act.put, pvA, pv0, pv1])
  (apply calm_on rfl; (focus (intro W hB; go_simp; refine (cb.out W).mono ?_; rintro _ _ ⟨rfl, hb'⟩; exact ⟨rfl, hb'⟩)); simp only [Act.put, pvA, pv0, pv1])
  iterate 2 (apply calm_on rfl; (focus (intro W hB; go_simp; exact ⟨rfl, Below.refl _ _⟩)); simp only [Act.put, pvA, pv0, pv1])
  refine calm_nil ?_
  intro w1 hs1
  (try dsimp only)
  have hb2_1 := hid (hb2_0.out.step hs1)
  have hb3_1 := hid (hb3_0.out.step hs1)
  have hb4_1 := hid (hb4_0.out.step hs1)
  have hbl1 := hbl0.trans (hs1.mono hbl0.size)
  clear hs1 hbl0 hb2_0 hb3_0 hb4_0
  (repeat ((fail_if_success (with_reducible refine Go.at_region ?_)); go_step))
  refine list_tail 1 ?_
  simp only [List.take_succ_cons, List.take_zero]
  (refine calm_build rfl 26 _ rfl (cellsP zeroP) (by first | (simp only [List.map_toArray, List.map_cons, List.map_nil]; exact bzPr) | exact bzPr) ?_; simp only [Act.put, pvA, pv0, pv1])
  refine calm_nil ?_
  intro wx2 hx2
  simp only [List.drop_succ_cons, List.drop_zero]
  (try simp only [Act.put, pvA, pv0, pv1])
  have fb2 := hb2_1.out.step hx2
  have fb3 := hb3_1.out.step hx2
  have fb4 := hb4_1.out.step hx2
  have hbb := hbl1.trans (hx2.mono hbl1.size)
  refine wpList_set 26 (.tmp 4) (.tmp 13) rfl rfl rfl (w.heap.size + 1 + 1) (cellsP zeroP) rfl rfl 26 (cellsP zeroP) fb4 (iPr zeroP) rfl (one_cellsP zeroP) ?_
  replace fb2 := fb2.other (show w.heap.size ≠ (w.heap.size + 1 + 1) by omega) (cellsP zeroP)
  replace fb3 := fb3.other (show (w.heap.size + 1) ≠ (w.heap.size + 1 + 1) by omega) (cellsP zeroP)
  replace fb4 := fb4.set (cellsP zeroP)
  replace hbb := below_set hbb (w.heap.size + 1 + 1) (by omega) (cellsP zeroP)
  refine wpList_nil ?_
  obtain ⟨w2, hw⟩ : ∃ z, z = (wx2.setRow (w.heap.size + 1 + 1) (cellsP zeroP)) := ⟨_, rfl⟩
  rw [← hw] at hbb fb2 fb3 fb4 ⊢
  have hb2_2 := hid fb2
  have hb3_2 := hid fb3
  have hb4_2 := hid fb4
  have hbl2 := hbb
  clear hw hbb fb2 fb3 fb4 hx2 hbl1 hb2_1 hb3_1 hb4_1 
  (repeat ((fail_if_success (with_reducible refine Go.at_region ?_)); go_step))
  refine ret_blk (w.heap.size + 1 + 1) 26 (cellsP zeroP) rfl rfl hb4_2.out gPr (iPr zeroP) rfl ?_
  exact ⟨rfl, hbl2⟩
set_option maxRecDepth 100000 in
set_option maxHeartbeats 4000000 in
theorem radd_on (a b : P2) (w : World) (ha : LtP a) (hb : LtP b) (ha1 : onG a = true) (hb1 : onG b = true) : Calls Tryz.prog 23 #[pt a, pt b] w fun e w' => e = .returned (pt (closeG (sumG (openG a) (openG b)))) ∧ Below w.heap.size w w' := by
  have ca := hid fun w => ron_any a w ha
  have cb := hid fun w => ron_any b w hb
  rw [ha1] at ca
  rw [hb1] at cb
  have c1 := hid fun w => opened_any a w ha
  have t1 := openG_bd w a
  obtain ⟨r1, e1⟩ : ∃ r, r = openG a := ⟨_, rfl⟩
  rw [← e1] at c1 t1
  replace t1 := hid t1
  have E1 := hid e1
  clear e1
  have c2 := hid fun w => opened_any b w hb
  have t2 := openG_bd w b
  obtain ⟨r2, e2⟩ : ∃ r, r = openG b := ⟨_, rfl⟩
  rw [← e2] at c2 t2
  replace t2 := hid t2
  have E2 := hid e2
  clear e2
  have c3 := hid fun w => sum_any r1 r2 w t1.out t2.out
  have t3 := sumG_bd w r1 r2 t1.out t2.out
  obtain ⟨r3, e3⟩ : ∃ r, r = sumG r1 r2 := ⟨_, rfl⟩
  rw [← e3] at c3 t3
  replace t3 := hid t3
  have E3 := hid e3
  clear e3
  have c4 := hid fun w => closed_any r3 w t3.out
  obtain ⟨r4, e4⟩ : ∃ r, r = closeG r3 := ⟨_, rfl⟩
  rw [← e4] at c4
  have E4 := hid e4
  clear e4
  clear ha hb ha1 hb1
  unfold pt full at *
  obtain ⟨w0, hw0, k2, k3, k4, hbl0⟩ := entry3 w 26 (cellsP a) 26 (cellsP b) 26 (cellsP zeroP)
  have hb2_0 := hid k2
  have hb3_0 := hid k3
  have hb4_0 := hid k4
  clear k2 k3 k4
  go_enter Tryz.func23, Tryz.ntmps23
  (repeat ((fail_if_success (with_reducible refine Go.at_region ?_)); go_step))
  refine wp_region_lit ?_
  (refine wpList_box 26 (.tmp 0) rfl rfl (cellsP a) rfl ?_; simp only [Act.put, pvA, pv0, pv1]; (try simp only [World.size_alloc]))
  (refine wpList_box 26 (.tmp 1) rfl rfl (cellsP b) rfl ?_; simp only [Act.put, pvA, pv0, pv1]; (try simp only [World.size_alloc]))
  (refine wpList_alloc_new rfl 26 rfl (cellsP zeroP) zPr ?_; simp only [Act.put, pvA, pv0, pv1]; (try simp only [World.size_alloc]))
  refine wpList_nil ?_
  rw [← hw0]
  clear hw0
  (repeat ((fail_if_success (with_reducible refine Go.at_region ?_)); go_step))
  refine list_all ?_
  (refine calm_whole rfl 26 (.tmp 2) rfl w.heap.size rfl 26 (cellsP a) hb2_0.out gPr (iPr a) ?_; simp only [Act.put, pvA, pv0, pv1])
  (apply calm_on rfl; (focus (intro W hB; go_simp; refine (ca.out W).mono ?_; rintro _ _ ⟨rfl, hb'⟩; exact ⟨rfl, hb'⟩)); simp only [Act.put, pvA, pv0, pv1])
  iterate 2 (apply calm_on rfl; (focus (intro W hB; go_simp; exact ⟨rfl, Below.refl _ _⟩)); simp only [Act.put, pvA, pv0, pv1])
  (refine calm_whole rfl 26 (.tmp 3) rfl (w.heap.size + 1) rfl 26 (cellsP b) hb3_0.out gPr (iPr b) ?_; simp only [Act.put, pvA, pv0, pv1])
  (apply calm_on rfl; (focus (intro W hB; go_simp; refine (cb.out W).mono ?_; rintro _ _ ⟨rfl, hb'⟩; exact ⟨rfl, hb'⟩)); simp only [Act.put, pvA, pv0, pv1])
  iterate 2 (apply calm_on rfl; (focus (intro W hB; go_simp; exact ⟨rfl, Below.refl _ _⟩)); simp only [Act.put, pvA, pv0, pv1])
  refine calm_nil ?_
  intro w1 hs1
  (try dsimp only)
  have hb2_1 := hid (hb2_0.out.step hs1)
  have hb3_1 := hid (hb3_0.out.step hs1)
  have hb4_1 := hid (hb4_0.out.step hs1)
  have hbl1 := hbl0.trans (hs1.mono hbl0.size)
  clear hs1 hbl0 hb2_0 hb3_0 hb4_0
  (repeat ((fail_if_success (with_reducible refine Go.at_region ?_)); go_step))
  refine draw_tail 6 (by kernel_rfl) (by kernel_rfl) (by kernel_rfl) ?_
  simp only [List.take_succ_cons, List.take_zero]
  (refine calm_whole rfl 26 (.tmp 2) rfl w.heap.size rfl 26 (cellsP a) hb2_1.out gPr (iPr a) ?_; simp only [Act.put, pvA, pv0, pv1])
  (apply calm_on rfl; (focus (intro W hB; go_simp; refine (c1.out W).mono ?_; rintro _ _ ⟨rfl, hb'⟩; exact ⟨rfl, hb'⟩)); simp only [Act.put, pvA, pv0, pv1])
  (refine calm_whole rfl 26 (.tmp 3) rfl (w.heap.size + 1) rfl 26 (cellsP b) hb3_1.out gPr (iPr b) ?_; simp only [Act.put, pvA, pv0, pv1])
  (apply calm_on rfl; (focus (intro W hB; go_simp; refine (c2.out W).mono ?_; rintro _ _ ⟨rfl, hb'⟩; exact ⟨rfl, hb'⟩)); simp only [Act.put, pvA, pv0, pv1])
  (apply calm_on rfl; (focus (intro W hB; go_simp; refine (c3.out W).mono ?_; rintro _ _ ⟨rfl, hb'⟩; exact ⟨rfl, hb'⟩)); simp only [Act.put, pvA, pv0, pv1])
  (apply calm_on rfl; (focus (intro W hB; go_simp; refine (c4.out W).mono ?_; rintro _ _ ⟨rfl, hb'⟩; exact ⟨rfl, hb'⟩)); simp only [Act.put, pvA, pv0, pv1])
  refine calm_nil ?_
  intro wx2 hx2
  simp only [List.drop_succ_cons, List.drop_zero]
  (try simp only [Act.put, pvA, pv0, pv1])
  have fb2 := hb2_1.out.step hx2
  have fb3 := hb3_1.out.step hx2
  have fb4 := hb4_1.out.step hx2
  have hbb := hbl1.trans (hx2.mono hbl1.size)
  refine wpList_set 26 (.tmp 4) (.tmp 19) rfl rfl rfl (w.heap.size + 1 + 1) (cellsP r4) rfl rfl 26 (cellsP zeroP) fb4 (iPr r4) rfl (one_cellsP r4) ?_
  replace fb2 := fb2.other (show w.heap.size ≠ (w.heap.size + 1 + 1) by omega) (cellsP r4)
  replace fb3 := fb3.other (show (w.heap.size + 1) ≠ (w.heap.size + 1 + 1) by omega) (cellsP r4)
  replace fb4 := fb4.set (cellsP r4)
  replace hbb := below_set hbb (w.heap.size + 1 + 1) (by omega) (cellsP r4)
  refine wpList_nil ?_
  obtain ⟨w2, hw⟩ : ∃ z, z = (wx2.setRow (w.heap.size + 1 + 1) (cellsP r4)) := ⟨_, rfl⟩
  rw [← hw] at hbb fb2 fb3 fb4 ⊢
  have hb2_2 := hid fb2
  have hb3_2 := hid fb3
  have hb4_2 := hid fb4
  have hbl2 := hbb
  clear hw hbb fb2 fb3 fb4 hx2 hbl1 hb2_1 hb3_1 hb4_1 
  (repeat ((fail_if_success (with_reducible refine Go.at_region ?_)); go_step))
  refine ret_blk (w.heap.size + 1 + 1) 26 (cellsP r4) rfl rfl hb4_2.out gPr (iPr r4) rfl ?_
  exact ⟨(by rw [E4.out, E3.out, E2.out, E1.out]; first | done | rfl), hbl2⟩
theorem raddP_any (a b : P2) (w : World) (ha : LtP a) (hb : LtP b) : Calls Tryz.prog 23 #[pt a, pt b] w fun e w' => e = .returned (pt (raddP a b)) ∧ Below w.heap.size w w' := by
  unfold raddP
  cases ha1 : onG a with
  | false => exact radd_a a b w ha hb ha1
  | true =>
    cases hb1 : onG b with
    | false => exact radd_b a b w ha hb ha1 hb1
    | true => exact radd_on a b w ha hb ha1 hb1
end Go.Proofs.YtejnnghfelpioaaGreat
namespace Go.Proofs.YtejnnghfelpioaaGreat
open Go.RowKit
def noneF : F4 := ⟨zeroG, oneG, oneG, zeroG⟩
theorem bNoneF : Tryz.prog.built 96 [(1, .agg (cellsG oneG)), (2, .agg (cellsG oneG))] = some (cellsF noneF) := by kernel_rfl
theorem zeroG_bd : BdG 65600 zeroG := ⟨rfl, fun j => by
  rcases Nat.lt_or_ge j 16 with h | h
  · revert j; decide
  · rw [ni_out _ _ h]; decide⟩
theorem noneF_bd : BdF noneF := ⟨zeroG_bd, oneG_bd, oneG_bd, zeroG_bd⟩
def mnG (p : F4) (x : Nat) : Nat → F4
  | 0 => noneF
  | m + 1 => if x / 2 ^ (255 - m) % 2 = 1 then sumG (twiceG (mnG p x m)) p else twiceG (mnG p x m)
theorem mnG_bd (w : World) (p : F4) (x : Nat) (hp : BdF p) : ∀ m, BdF (mnG p x m)
  | 0 => noneF_bd
  | m + 1 => by
    have ih := mnG_bd w p x hp m
    rw [mnG]; split
    · exact sumG_bd w _ _ (twiceG_bd w _ ih) hp
    · exact twiceG_bd w _ ih
def manyG (p : F4) (x : Nat) : F4 := mnG p x 256
set_option maxRecDepth 100000 in
set_option maxHeartbeats 8000000 in
theorem many_any (x : Nat) (p : F4) (w : World) (hp : BdF p) : Calls Tryz.prog 62 #[wd x, full p] w fun e w' => e = .returned (full (manyG p x)) ∧ Below w.heap.size w w' := by
  have hT := hid fun m => mnG_bd w p x hp m
  have hTw := hid fun q w (hq : BdF q) => rtwice_any q w hq
  have hTb := hid fun q (hq : BdF q) => twiceG_bd w q hq
  have hS := hid fun q w (hq : BdF q) => sum_any q p w hq hp
  clear hp
  unfold manyG
  obtain ⟨w0, hw0, k1, k2, k3, hb0⟩ := entry3 w 24 (cellsW x) 96 (cellsF p) 96 (cellsF zeroF)
  have hX0 := hid k1
  have hP0 := hid k2
  have hR0 := hid k3
  clear k1 k2 k3
  unfold full wd at *
  go_enter Tryz.func62, Tryz.ntmps62
  have hX1 := hid (hX0.out.alloc (.cells (cellsF noneF) 96))
  have hP1 := hid (hP0.out.alloc (.cells (cellsF noneF) 96))
  have hR1 := hid (hR0.out.alloc (.cells (cellsF noneF) 96))
  have hO1 := hid (Blk.new 96 w0 (cellsF noneF))
  have hb1 := hb0.alloc hb0.size (.cells (cellsF noneF) 96)
  have hs0 : w0.heap.size = w.heap.size + 3 := by rw [hw0]; simp [World.size_alloc]
  (repeat ((fail_if_success (with_reducible refine Go.at_region ?_)); go_step))
  refine wp_region_lit ?_
  (refine wpList_box 24 (.tmp 0) rfl rfl (cellsW x) rfl ?_; simp only [Act.put, pvA, pv0, pv1]; (try simp only [World.size_alloc]))
  (refine wpList_box 96 (.tmp 1) rfl rfl (cellsF p) rfl ?_; simp only [Act.put, pvA, pv0, pv1]; (try simp only [World.size_alloc]))
  (refine wpList_alloc_new rfl 96 rfl (cellsF zeroF) zF ?_; simp only [Act.put, pvA, pv0, pv1]; (try simp only [World.size_alloc]))
  refine wpList_nil ?_
  rw [← hw0]
  obtain ⟨G, hG⟩ : ∃ G, G = w0.heap.size := ⟨_, rfl⟩
  have HG := hid hG
  have hGl : w.heap.size + 3 ≤ G := by omega
  rw [← hG] at hO1
  clear hw0 hX0 hP0 hR0 hb0 hs0 hG
  (repeat ((fail_if_success (with_reducible refine Go.at_region ?_)); go_step))
  refine wp_region_lit ?_
  refine wpList_build_cells rfl 68 _ rfl (cellsG oneG) ?hb ?_
  case hb => (simp only [List.map_toArray, List.map_cons, List.map_nil, Act.eval]; exact bG1)
  simp only [Act.put, pvA, pv0, pv1]
  refine wpList_build_cells rfl 68 _ rfl (cellsG oneG) ?hb ?_
  case hb => (simp only [List.map_toArray, List.map_cons, List.map_nil, Act.eval]; exact bG1)
  simp only [Act.put, pvA, pv0, pv1]
  refine wpList_build_cells rfl 96 _ rfl (cellsF noneF) ?hb ?_
  case hb => (simp only [List.map_toArray, List.map_cons, List.map_nil]; exact bNoneF)
  simp only [Act.put, pvA, pv0, pv1]
  (refine wpList_allocStore 96 9 5 (cellsF noneF) (cellsF zeroF) rfl rfl rfl rfl rfl rfl (by decide) (by simp) rfl (by kernel_rfl) rfl (iF4 _) (one_cellsF _) ?_; simp only [Act.put, pvA, pv0, pv1])
  refine wpList_nil ?_
  go_wp2_with fail
  (try simp only [World.size_alloc])
  rw [← HG.out]
  generalize w0.alloc (.cells (cellsF noneF) 96) = w2 at hX1 hP1 hR1 hO1 hb1 ⊢
  clear HG
  go_loopw [6] (fun iv wr => ∃ (n : Nat) (y : Int), n ≤ 256 ∧ y + 1 = (n : Int) ∧ iv = .int .i64 y ∧ Hid (Blk 24 wr w.heap.size (cellsW x)) ∧ Hid (Blk 96 wr (w.heap.size + 1) (cellsF p)) ∧ Hid (Blk 96 wr (w.heap.size + 1 + 1) (cellsF zeroF)) ∧ Hid (Blk 96 wr G (cellsF (mnG p x (256 - n)))) ∧ Below w.heap.size w wr)
    (fun iv _ => (intOf iv + 1).toNat)
  case atStart => exact ⟨256, 255, by omega, by omega, rfl, hX1, hP1, hR1, hO1, hb1⟩
  case round =>
    clear hX1 hP1 hR1 hO1 hb1
    obtain ⟨n, y, hn, hy, rfl, hX, hP, hR, hO, hb⟩ := hrel
    cases n with
    | zero =>
      obtain rfl : y = -1 := by omega
      rw [Nat.sub_zero] at hO
      obtain ⟨r, hr⟩ : ∃ r, r = mnG p x 256 := ⟨_, rfl⟩
      rw [← hr] at hO
      have HR := hid hr
      clear hr hy hn hT hTw hTb hS
      go_wp2_with (first | (refine wpList_get 96 (.tmp 5) rfl rfl G rfl 96 (cellsF r) hO.out gF (iF4 r) ?_; simp only [Act.put, pvA, pv0, pv1]) | (refine wpList_set 96 (.tmp 4) (.tmp 29) rfl rfl rfl (w.heap.size + 1 + 1) (cellsF r) rfl rfl 96 (cellsF zeroF) hR.out (iF4 r) rfl (one_cellsF r) ?_))
      refine ret_blk (w.heap.size + 1 + 1) 96 (cellsF r) rfl rfl (hR.out.set _) gF (iF4 r) rfl ?_
      exact ⟨by rw [HR.out], below_set hb _ (by omega) _⟩
    | succ k =>
      obtain rfl : y = (k : Int) := by omega
      have hk : k ≤ 255 := by omega
      have hki : (k : Int) ≤ 255 := by omega
      clear hn hy
      have hbit := lm_bit x k
      obtain ⟨m, hm⟩ : ∃ m, m = 256 - (k + 1) := ⟨_, rfl⟩
      rw [← hm] at hO
      have hTy := hT.out m
      have hpw : mnG p x (256 - k) = if x / 2 ^ k % 2 = 1 then sumG (twiceG (mnG p x m)) p else twiceG (mnG p x m) := by
        rw [show 256 - k = m + 1 by omega, mnG, show 255 - m = k by omega]
      obtain ⟨y, hy⟩ : ∃ y, y = mnG p x m := ⟨_, rfl⟩
      rw [← hy] at hO hTy hpw
      have hM1 := hid fun w => hTw.out y w hTy
      have hTz := hTb.out y hTy
      obtain ⟨z, hz⟩ : ∃ z, z = twiceG y := ⟨_, rfl⟩
      rw [← hz] at hM1 hTz hpw
      have HTZ := hid hTz
      clear hm hy hz hTz hTy
      go_wp2_with (refine wpList_get 96 (.tmp 5) rfl rfl G rfl 96 (cellsF y) hO.out gF (iF4 y) ?_; simp only [Act.put, pvA, pv0, pv1])
      refine (hM1.out _).mono ?_
      rintro en w3 ⟨rfl, hs3⟩
      have hX3 := hid ((hX.out.step hs3).other (show w.heap.size ≠ G by omega) (cellsF z))
      have hP3 := hid ((hP.out.step hs3).other (show w.heap.size + 1 ≠ G by omega) (cellsF z))
      have hR3 := hid ((hR.out.step hs3).other (show w.heap.size + 1 + 1 ≠ G by omega) (cellsF z))
      have hO2 := hid (hO.out.step hs3)
      have hO3 := hid (hO2.out.set (cellsF z))
      have hb3 := below_set (hb.trans (hs3.mono hb.size)) G (by omega) (cellsF z)
      clear hX hP hR hO hb hs3 hM1
      have cX := hX3.out.cell (k / 64) _ (cellsW_at x (k / 64) (by omega))
      have lX := hX3.out.lt
      rcases (show x / 2 ^ k % 2 = 0 ∨ x / 2 ^ k % 2 = 1 by omega) with h0 | h1
      · rw [if_neg (by omega)] at hpw
        rw [h0] at hbit
        have HPW := hid hpw
        clear h0 hpw
        go_wp2_with (refine wpList_set 96 (.tmp 5) (.tmp 15) rfl rfl rfl G (cellsF z) rfl rfl 96 (cellsF y) hO2.out (iF4 z) rfl (one_cellsF z) ?_)
        go_roundw
        case rel => exact ⟨k, (k : Int) - 1, by omega, by omega, by go_num, hX3, hP3, hR3, by rw [HPW.out]; exact hO3, hb3⟩
        case measure => simp [intOf]
      · rw [if_pos h1] at hpw
        rw [h1] at hbit
        have hM2 := hid fun w => hS.out z w HTZ.out
        obtain ⟨u, hu⟩ : ∃ u, u = sumG z p := ⟨_, rfl⟩
        rw [← hu] at hM2 hpw
        have HPW := hid hpw
        clear h1 hpw hu
        go_wp2_with (first | (refine wpList_set 96 (.tmp 5) (.tmp 15) rfl rfl rfl G (cellsF z) rfl rfl 96 (cellsF y) hO2.out (iF4 z) rfl (one_cellsF z) ?_) | (refine wpList_get 96 (.tmp 5) rfl rfl G rfl 96 (cellsF z) hO3.out gF (iF4 z) ?_; simp only [Act.put, pvA, pv0, pv1]) | (refine wpList_get 96 (.tmp 3) rfl rfl (w.heap.size + 1) rfl 96 (cellsF p) hP3.out gF (iF4 p) ?_; simp only [Act.put, pvA, pv0, pv1]))
        refine (hM2.out _).mono ?_
        rintro en w5 ⟨rfl, hs5⟩
        have hX5 := hid ((hX3.out.step hs5).other (show w.heap.size ≠ G by omega) (cellsF u))
        have hP5 := hid ((hP3.out.step hs5).other (show w.heap.size + 1 ≠ G by omega) (cellsF u))
        have hR5 := hid ((hR3.out.step hs5).other (show w.heap.size + 1 + 1 ≠ G by omega) (cellsF u))
        have hO4 := hid (hO3.out.step hs5)
        have hO5 := hid (hO4.out.set (cellsF u))
        have hb5 := below_set (hb3.trans (hs5.mono hb3.size)) G (by omega) (cellsF u)
        clear hX3 hP3 hR3 hO2 hO3 hb3 hs5 hM2 cX lX
        go_wp2_with (refine wpList_set 96 (.tmp 5) (.tmp 28) rfl rfl rfl G (cellsF u) rfl rfl 96 (cellsF z) hO4.out (iF4 u) rfl (one_cellsF u) ?_)
        go_roundw
        case rel => exact ⟨k, (k : Int) - 1, by omega, by omega, by go_num, hX5, hP5, hR5, by rw [HPW.out]; exact hO5, hb5⟩
        case measure => simp [intOf]
end Go.Proofs.YtejnnghfelpioaaGreat
namespace Go.Proofs.YtejnnghfelpioaaGreat
open Go.RowKit
def rmulP (n : Nat) (p : P2) : P2 := if onG p = true then closeG (manyG (openG p) n) else zeroP
set_option maxRecDepth 100000 in
set_option maxHeartbeats 4000000 in
theorem rmul5_off (n : Nat) (p : P2) (w : World) (hp : LtP p) (h1 : onG p = false) : Calls Tryz.prog 25 #[wd n, pt p] w fun e w' => e = .returned (pt zeroP) ∧ Below w.heap.size w w' := by
  have ca := hid fun w => ron_any p w hp
  rw [h1] at ca
  clear hp h1
  unfold pt wd at *
  obtain ⟨w0, hw0, k2, k3, k4, hbl0⟩ := entry3 w 24 (cellsW n) 26 (cellsP p) 26 (cellsP zeroP)
  have hb2_0 := hid k2
  have hb3_0 := hid k3
  have hb4_0 := hid k4
  clear k2 k3 k4
  go_enter Tryz.func25, Tryz.ntmps25
  (repeat ((fail_if_success (with_reducible refine Go.at_region ?_)); go_step))
  refine wp_region_lit ?_
  (refine wpList_box 24 (.tmp 0) rfl rfl (cellsW n) rfl ?_; simp only [Act.put, pvA, pv0, pv1]; (try simp only [World.size_alloc]))
  (refine wpList_box 26 (.tmp 1) rfl rfl (cellsP p) rfl ?_; simp only [Act.put, pvA, pv0, pv1]; (try simp only [World.size_alloc]))
  (refine wpList_alloc_new rfl 26 rfl (cellsP zeroP) zPr ?_; simp only [Act.put, pvA, pv0, pv1]; (try simp only [World.size_alloc]))
  refine wpList_nil ?_
  rw [← hw0]
  clear hw0
  (repeat ((fail_if_success (with_reducible refine Go.at_region ?_)); go_step))
  refine list_all ?_
  (refine calm_whole rfl 26 (.tmp 3) rfl (w.heap.size + 1) rfl 26 (cellsP p) hb3_0.out gPr (iPr p) ?_; simp only [Act.put, pvA, pv0, pv1])
  (apply calm_on rfl; (focus (intro W hB; go_simp; refine (ca.out W).mono ?_; rintro _ _ ⟨rfl, hb'⟩; exact ⟨rfl, hb'⟩)); simp only [Act.put, pvA, pv0, pv1])
  (apply calm_on rfl; (focus (intro W hB; go_simp; exact ⟨rfl, Below.refl _ _⟩)); simp only [Act.put, pvA, pv0, pv1])
  refine calm_nil ?_
  intro w1 hs1
  (try dsimp only)
  have hb2_1 := hid (hb2_0.out.step hs1)
  have hb3_1 := hid (hb3_0.out.step hs1)
  have hb4_1 := hid (hb4_0.out.step hs1)
  have hbl1 := hbl0.trans (hs1.mono hbl0.size)
  clear hs1 hbl0 hb2_0 hb3_0 hb4_0
  (repeat ((fail_if_success (with_reducible refine Go.at_region ?_)); go_step))
  refine list_tail 1 ?_
  simp only [List.take_succ_cons, List.take_zero]
  (refine calm_build rfl 26 _ rfl (cellsP zeroP) (by first | (simp only [List.map_toArray, List.map_cons, List.map_nil]; exact bzPr) | exact bzPr) ?_; simp only [Act.put, pvA, pv0, pv1])
  refine calm_nil ?_
  intro wx2 hx2
  simp only [List.drop_succ_cons, List.drop_zero]
  (try simp only [Act.put, pvA, pv0, pv1])
  have fb2 := hb2_1.out.step hx2
  have fb3 := hb3_1.out.step hx2
  have fb4 := hb4_1.out.step hx2
  have hbb := hbl1.trans (hx2.mono hbl1.size)
  refine wpList_set 26 (.tmp 4) (.tmp 8) rfl rfl rfl (w.heap.size + 1 + 1) (cellsP zeroP) rfl rfl 26 (cellsP zeroP) fb4 (iPr zeroP) rfl (one_cellsP zeroP) ?_
  replace fb2 := fb2.other (show w.heap.size ≠ (w.heap.size + 1 + 1) by omega) (cellsP zeroP)
  replace fb3 := fb3.other (show (w.heap.size + 1) ≠ (w.heap.size + 1 + 1) by omega) (cellsP zeroP)
  replace fb4 := fb4.set (cellsP zeroP)
  replace hbb := below_set hbb (w.heap.size + 1 + 1) (by omega) (cellsP zeroP)
  refine wpList_nil ?_
  obtain ⟨w2, hw⟩ : ∃ z, z = (wx2.setRow (w.heap.size + 1 + 1) (cellsP zeroP)) := ⟨_, rfl⟩
  rw [← hw] at hbb fb2 fb3 fb4 ⊢
  have hb2_2 := hid fb2
  have hb3_2 := hid fb3
  have hb4_2 := hid fb4
  have hbl2 := hbb
  clear hw hbb fb2 fb3 fb4 hx2 hbl1 hb2_1 hb3_1 hb4_1 
  (repeat ((fail_if_success (with_reducible refine Go.at_region ?_)); go_step))
  refine ret_blk (w.heap.size + 1 + 1) 26 (cellsP zeroP) rfl rfl hb4_2.out gPr (iPr zeroP) rfl ?_
  exact ⟨rfl, hbl2⟩
set_option maxRecDepth 100000 in
set_option maxHeartbeats 4000000 in
theorem rmul5_on (n : Nat) (p : P2) (w : World) (hp : LtP p) (h1 : onG p = true) : Calls Tryz.prog 25 #[wd n, pt p] w fun e w' => e = .returned (pt (closeG (manyG (openG p) n))) ∧ Below w.heap.size w w' := by
  have ca := hid fun w => ron_any p w hp
  rw [h1] at ca
  have c1 := hid fun w => opened_any p w hp
  have t1 := openG_bd w p
  obtain ⟨r1, e1⟩ : ∃ r, r = openG p := ⟨_, rfl⟩
  rw [← e1] at c1 t1
  replace t1 := hid t1
  have E1 := hid e1
  clear e1
  have c2 := hid fun w => many_any n r1 w t1.out
  have t2 := (show BdF (manyG r1 n) from mnG_bd w r1 n t1.out 256)
  obtain ⟨r2, e2⟩ : ∃ r, r = manyG r1 n := ⟨_, rfl⟩
  rw [← e2] at c2 t2
  replace t2 := hid t2
  have E2 := hid e2
  clear e2
  have c3 := hid fun w => closed_any r2 w t2.out
  obtain ⟨r3, e3⟩ : ∃ r, r = closeG r2 := ⟨_, rfl⟩
  rw [← e3] at c3
  have E3 := hid e3
  clear e3
  clear hp h1
  unfold pt full wd at *
  obtain ⟨w0, hw0, k2, k3, k4, hbl0⟩ := entry3 w 24 (cellsW n) 26 (cellsP p) 26 (cellsP zeroP)
  have hb2_0 := hid k2
  have hb3_0 := hid k3
  have hb4_0 := hid k4
  clear k2 k3 k4
  go_enter Tryz.func25, Tryz.ntmps25
  (repeat ((fail_if_success (with_reducible refine Go.at_region ?_)); go_step))
  refine wp_region_lit ?_
  (refine wpList_box 24 (.tmp 0) rfl rfl (cellsW n) rfl ?_; simp only [Act.put, pvA, pv0, pv1]; (try simp only [World.size_alloc]))
  (refine wpList_box 26 (.tmp 1) rfl rfl (cellsP p) rfl ?_; simp only [Act.put, pvA, pv0, pv1]; (try simp only [World.size_alloc]))
  (refine wpList_alloc_new rfl 26 rfl (cellsP zeroP) zPr ?_; simp only [Act.put, pvA, pv0, pv1]; (try simp only [World.size_alloc]))
  refine wpList_nil ?_
  rw [← hw0]
  clear hw0
  (repeat ((fail_if_success (with_reducible refine Go.at_region ?_)); go_step))
  refine list_all ?_
  (refine calm_whole rfl 26 (.tmp 3) rfl (w.heap.size + 1) rfl 26 (cellsP p) hb3_0.out gPr (iPr p) ?_; simp only [Act.put, pvA, pv0, pv1])
  (apply calm_on rfl; (focus (intro W hB; go_simp; refine (ca.out W).mono ?_; rintro _ _ ⟨rfl, hb'⟩; exact ⟨rfl, hb'⟩)); simp only [Act.put, pvA, pv0, pv1])
  (apply calm_on rfl; (focus (intro W hB; go_simp; exact ⟨rfl, Below.refl _ _⟩)); simp only [Act.put, pvA, pv0, pv1])
  refine calm_nil ?_
  intro w1 hs1
  (try dsimp only)
  have hb2_1 := hid (hb2_0.out.step hs1)
  have hb3_1 := hid (hb3_0.out.step hs1)
  have hb4_1 := hid (hb4_0.out.step hs1)
  have hbl1 := hbl0.trans (hs1.mono hbl0.size)
  clear hs1 hbl0 hb2_0 hb3_0 hb4_0
  (repeat ((fail_if_success (with_reducible refine Go.at_region ?_)); go_step))
  refine draw_tail 5 (by kernel_rfl) (by kernel_rfl) (by kernel_rfl) ?_
  simp only [List.take_succ_cons, List.take_zero]
  (refine calm_whole rfl 24 (.tmp 2) rfl w.heap.size rfl 24 (cellsW n) hb2_1.out gWd (iW n) ?_; simp only [Act.put, pvA, pv0, pv1])
  (refine calm_whole rfl 26 (.tmp 3) rfl (w.heap.size + 1) rfl 26 (cellsP p) hb3_1.out gPr (iPr p) ?_; simp only [Act.put, pvA, pv0, pv1])
  (apply calm_on rfl; (focus (intro W hB; go_simp; refine (c1.out W).mono ?_; rintro _ _ ⟨rfl, hb'⟩; exact ⟨rfl, hb'⟩)); simp only [Act.put, pvA, pv0, pv1])
  (apply calm_on rfl; (focus (intro W hB; go_simp; refine (c2.out W).mono ?_; rintro _ _ ⟨rfl, hb'⟩; exact ⟨rfl, hb'⟩)); simp only [Act.put, pvA, pv0, pv1])
  (apply calm_on rfl; (focus (intro W hB; go_simp; refine (c3.out W).mono ?_; rintro _ _ ⟨rfl, hb'⟩; exact ⟨rfl, hb'⟩)); simp only [Act.put, pvA, pv0, pv1])
  refine calm_nil ?_
  intro wx2 hx2
  simp only [List.drop_succ_cons, List.drop_zero]
  (try simp only [Act.put, pvA, pv0, pv1])
  have fb2 := hb2_1.out.step hx2
  have fb3 := hb3_1.out.step hx2
  have fb4 := hb4_1.out.step hx2
  have hbb := hbl1.trans (hx2.mono hbl1.size)
  refine wpList_set 26 (.tmp 4) (.tmp 13) rfl rfl rfl (w.heap.size + 1 + 1) (cellsP r3) rfl rfl 26 (cellsP zeroP) fb4 (iPr r3) rfl (one_cellsP r3) ?_
  replace fb2 := fb2.other (show w.heap.size ≠ (w.heap.size + 1 + 1) by omega) (cellsP r3)
  replace fb3 := fb3.other (show (w.heap.size + 1) ≠ (w.heap.size + 1 + 1) by omega) (cellsP r3)
  replace fb4 := fb4.set (cellsP r3)
  replace hbb := below_set hbb (w.heap.size + 1 + 1) (by omega) (cellsP r3)
  refine wpList_nil ?_
  obtain ⟨w2, hw⟩ : ∃ z, z = (wx2.setRow (w.heap.size + 1 + 1) (cellsP r3)) := ⟨_, rfl⟩
  rw [← hw] at hbb fb2 fb3 fb4 ⊢
  have hb2_2 := hid fb2
  have hb3_2 := hid fb3
  have hb4_2 := hid fb4
  have hbl2 := hbb
  clear hw hbb fb2 fb3 fb4 hx2 hbl1 hb2_1 hb3_1 hb4_1 
  (repeat ((fail_if_success (with_reducible refine Go.at_region ?_)); go_step))
  refine ret_blk (w.heap.size + 1 + 1) 26 (cellsP r3) rfl rfl hb4_2.out gPr (iPr r3) rfl ?_
  exact ⟨(by rw [E3.out, E2.out, E1.out]; first | done | rfl), hbl2⟩
theorem rmulP_any (n : Nat) (p : P2) (w : World) (hp : LtP p) : Calls Tryz.prog 25 #[wd n, pt p] w fun e w' => e = .returned (pt (rmulP n p)) ∧ Below w.heap.size w w' := by
  unfold rmulP
  cases h1 : onG p with
  | false => exact rmul5_off n p w hp h1
  | true => exact rmul5_on n p w hp h1
end Go.Proofs.YtejnnghfelpioaaGreat
namespace Go.Proofs.YtejnnghfelpioaaGreat
def IsP (r : Nat) : Prop := 2 ≤ r ∧ ∀ d, d ∣ r → d = 1 ∨ d = r
theorem IsP.euclid {r a b : Nat} (h : IsP r) (hd : r ∣ a * b) : r ∣ a ∨ r ∣ b := by
  rcases h.2 (Nat.gcd r a) (Nat.gcd_dvd_left r a) with h1 | h1
  · exact .inr (Nat.Coprime.dvd_of_dvd_mul_left h1 hd)
  · exact .inl (h1 ▸ Nat.gcd_dvd_right r a)
theorem IsP.coprime {r a : Nat} (h : IsP r) (hn : ¬ r ∣ a) : Nat.gcd r a = 1 := by
  rcases h.2 (Nat.gcd r a) (Nat.gcd_dvd_left r a) with h1 | h1
  · exact h1
  · exact absurd (h1 ▸ Nat.gcd_dvd_right r a) hn
theorem prime_div : ∀ (k n : Nat), n ≤ k → 2 ≤ n → ∃ r, IsP r ∧ r ∣ n ∧ (¬ IsP n → r * r ≤ n) := by
  intro k
  induction k with
  | zero => intro n h1 h2; omega
  | succ k ih =>
    intro n h1 h2
    by_cases hp : IsP n
    · exact ⟨n, hp, Nat.dvd_refl n, fun h => absurd hp h⟩
    · have hne : ∃ d, d ∣ n ∧ d ≠ 1 ∧ d ≠ n := by
        apply Classical.byContradiction
        intro hc
        apply hp
        refine ⟨h2, fun d hd => ?_⟩
        by_cases e1 : d = 1
        · exact .inl e1
        · by_cases e2 : d = n
          · exact .inr e2
          · exact absurd ⟨d, hd, e1, e2⟩ hc
      obtain ⟨d, ⟨e, he⟩, hd1, hd2⟩ := hne
      have hd0 : d ≠ 0 := by rintro rfl; rw [Nat.zero_mul] at he; omega
      have he0 : e ≠ 0 := by rintro rfl; rw [Nat.mul_zero] at he; omega
      have he1 : e ≠ 1 := by rintro rfl; rw [Nat.mul_one] at he; exact hd2 he.symm
      have hdl : d < n := by rw [he]; have := Nat.mul_lt_mul_of_pos_left (show 1 < e by omega) (show 0 < d by omega); omega
      have hel : e < n := by rw [he]; have := Nat.mul_lt_mul_of_pos_right (show 1 < d by omega) (show 0 < e by omega); omega
      rcases Nat.le_total d e with hle | hle
      · obtain ⟨r, hr, hrd, _⟩ := ih d (by omega) (by omega)
        refine ⟨r, hr, Nat.dvd_trans hrd ⟨e, he⟩, fun _ => ?_⟩
        have hrl := Nat.le_of_dvd (by omega) hrd
        rw [he]; exact Nat.mul_le_mul hrl (Nat.le_trans hrl hle)
      · obtain ⟨r, hr, hrd, _⟩ := ih e (by omega) (by omega)
        refine ⟨r, hr, Nat.dvd_trans hrd ⟨d, by rw [he, Nat.mul_comm]⟩, fun _ => ?_⟩
        have hrl := Nat.le_of_dvd (by omega) hrd
        rw [he]; exact Nat.mul_le_mul (Nat.le_trans hrl hle) hrl
def noDiv (n : Nat) : Nat → Bool
  | 0 => true
  | d + 1 => (decide (d < 2) || decide (n % d ≠ 0)) && noDiv n d
theorem noDiv_spec (n : Nat) : ∀ k, noDiv n k = true → ∀ d, 2 ≤ d → d < k → ¬ d ∣ n := by
  intro k
  induction k with
  | zero => intro _ d _ h; omega
  | succ k ih =>
    intro h d h2 hl
    rw [noDiv, Bool.and_eq_true] at h
    by_cases e : d = k
    · subst e
      intro hd
      have h1 := h.1
      rw [Bool.or_eq_true, decide_eq_true_eq, decide_eq_true_eq] at h1
      rcases h1 with h1 | h1
      · omega
      · exact h1 (Nat.mod_eq_zero_of_dvd hd)
    · exact ih h.2 d h2 (by omega)
theorem prime_trial (n k : Nat) (h2 : 2 ≤ n) (hk : n < k * k) (h : noDiv n k = true) : IsP n := by
  obtain ⟨r, hr, hd, hs⟩ := prime_div n n (Nat.le_refl _) h2
  apply Classical.byContradiction
  intro hn
  have h3 := hs hn
  have hrk : r < k := by
    rcases Nat.lt_or_ge r k with h4 | h4
    · exact h4
    · exact absurd (Nat.le_trans (Nat.mul_le_mul h4 h4) h3) (by omega)
  exact noDiv_spec n k h r hr.1 hrk hd
theorem pow_mod_cong {a b n : Nat} (h : a % n = b % n) : ∀ k, a ^ k % n = b ^ k % n := by
  intro k
  induction k with
  | zero => rfl
  | succ k ih => rw [Nat.pow_succ, Nat.pow_succ, Nat.mul_mod, ih, h, ← Nat.mul_mod]
theorem pow_one_mul {a n k : Nat} (h : a ^ k % n = 1 % n) (m : Nat) : a ^ (k * m) % n = 1 % n := by
  rw [Nat.pow_mul, pow_mod_cong h m, Nat.one_pow]
theorem pow_one_gcd {a n : Nat} : ∀ x y : Nat, a ^ x % n = 1 % n → a ^ y % n = 1 % n → a ^ (Nat.gcd x y) % n = 1 % n := by
  intro x
  induction x using Nat.strongRecOn with
  | ind x ih =>
    intro y hx hy
    by_cases h0 : x = 0
    · subst h0; rw [Nat.gcd_zero_left]; exact hy
    · rw [Nat.gcd_rec]
      refine ih (y % x) (Nat.mod_lt _ (by omega)) x ?_ hx
      have e : a ^ y = a ^ (x * (y / x)) * a ^ (y % x) := by rw [← Nat.pow_add, Nat.div_add_mod]
      have h1 := pow_one_mul hx (y / x)
      rw [e, Nat.mul_mod, h1, ← Nat.mul_mod, Nat.one_mul] at hy
      exact hy
def ch : Nat → Nat → Nat
  | _, 0 => 1
  | 0, _ + 1 => 0
  | n + 1, k + 1 => ch n k + ch n (k + 1)
theorem ch_over : ∀ n k, n < k → ch n k = 0 := by
  intro n
  induction n with
  | zero => intro k h; cases k with
    | zero => omega
    | succ k => rfl
  | succ n ih => intro k h; cases k with
    | zero => omega
    | succ k => rw [ch, ih k (by omega), ih (k + 1) (by omega)]
theorem ch_self : ∀ n, ch n n = 1 := by
  intro n
  induction n with
  | zero => rfl
  | succ n ih => rw [ch, ih, ch_over n (n + 1) (by omega)]
theorem ch_zero (n : Nat) : ch n 0 = 1 := by cases n <;> rfl
theorem ch_mul : ∀ n k, ch (n + 1) (k + 1) * (k + 1) = (n + 1) * ch n k := by
  intro n
  induction n with
  | zero => intro k; cases k with
    | zero => rfl
    | succ k => simp [ch]
  | succ n ih =>
    intro k
    cases k with
    | zero =>
      have h0 := ih 0
      rw [ch_zero, Nat.zero_add, Nat.mul_one, Nat.mul_one] at h0
      rw [show ch (n + 1 + 1) (0 + 1) = ch (n + 1) 0 + ch (n + 1) (0 + 1) from rfl, ch_zero, Nat.zero_add, Nat.mul_one, Nat.mul_one]; omega
    | succ k =>
      have h1 := ih k
      have h2 := ih (k + 1)
      rw [show ch (n + 1 + 1) (k + 1 + 1) = ch (n + 1) (k + 1) + ch (n + 1) (k + 1 + 1) from rfl]
      have h3 : ch (n + 1) (k + 1) * (k + 1 + 1) = (n + 1) * ch n k + ch (n + 1) (k + 1) := by rw [Nat.mul_succ, h1]
      rw [Nat.add_mul, h3, h2]
      have h4 : ch (n + 1) (k + 1) = ch n k + ch n (k + 1) := rfl
      have h5 : (n + 1 + 1) * ch (n + 1) (k + 1) = (n + 1) * ch (n + 1) (k + 1) + ch (n + 1) (k + 1) := Nat.succ_mul _ _
      rw [h5]
      have h6 : (n + 1) * ch (n + 1) (k + 1) = (n + 1) * ch n k + (n + 1) * ch n (k + 1) := by rw [h4, Nat.mul_add]
      omega
theorem dvd_sub_mod (a b r : Nat) (h : b % r = a % r) : r ∣ b - a := by
  rcases Nat.lt_or_ge b a with h1 | h1
  · rw [Nat.sub_eq_zero_of_le (Nat.le_of_lt h1)]; exact ⟨0, rfl⟩
  · exact ⟨b / r - a / r, by have e1 := Nat.div_add_mod b r; have e2 := Nat.div_add_mod a r; rw [Nat.mul_sub]; omega⟩
def sumTo (f : Nat → Nat) : Nat → Nat
  | 0 => 0
  | n + 1 => sumTo f n + f n
theorem sumTo_front (f : Nat → Nat) : ∀ n, sumTo f (n + 1) = f 0 + sumTo (fun k => f (k + 1)) n := by
  intro n
  induction n with
  | zero => simp [sumTo]
  | succ n ih => rw [sumTo, ih, sumTo, Nat.add_assoc]
theorem sumTo_add (f g : Nat → Nat) : ∀ n, sumTo (fun k => f k + g k) n = sumTo f n + sumTo g n := by
  intro n
  induction n with
  | zero => rfl
  | succ n ih => simp only [sumTo, ih]; omega
theorem sumTo_mul (f : Nat → Nat) (a : Nat) : ∀ n, sumTo (fun k => a * f k) n = a * sumTo f n := by
  intro n
  induction n with
  | zero => rfl
  | succ n ih => simp only [sumTo, ih, Nat.mul_add]
theorem sumTo_congr {f g : Nat → Nat} : ∀ n, (∀ k, k < n → f k = g k) → sumTo f n = sumTo g n := by
  intro n
  induction n with
  | zero => intro _; rfl
  | succ n ih => intro h; rw [sumTo, sumTo, ih fun k hk => h k (by omega), h n (by omega)]
theorem sumTo_dvd (r : Nat) (f : Nat → Nat) : ∀ n, (∀ k, k < n → r ∣ f k) → r ∣ sumTo f n := by
  intro n
  induction n with
  | zero => intro _; exact ⟨0, rfl⟩
  | succ n ih => intro h; exact Nat.dvd_add (ih fun k hk => h k (by omega)) (h n (by omega))
theorem binom (a : Nat) : ∀ n, (a + 1) ^ n = sumTo (fun k => ch n k * a ^ k) (n + 1) := by
  intro n
  induction n with
  | zero => simp [sumTo, ch]
  | succ n ih =>
    rw [sumTo_front, ch_zero]
    have e1 : sumTo (fun k => ch (n + 1) (k + 1) * a ^ (k + 1)) (n + 1) = sumTo (fun k => a * (ch n k * a ^ k) + ch n (k + 1) * a ^ (k + 1)) (n + 1) :=
      sumTo_congr _ fun k _ => by
        rw [show ch (n + 1) (k + 1) = ch n k + ch n (k + 1) from rfl, Nat.add_mul, Nat.pow_succ]
        rw [show ch n k * (a ^ k * a) = a * (ch n k * a ^ k) by rw [← Nat.mul_assoc, Nat.mul_comm]]
    have e2 : sumTo (fun k => ch n k * a ^ k) (n + 1 + 1) = ch n 0 * a ^ 0 + sumTo (fun k => ch n (k + 1) * a ^ (k + 1)) (n + 1) := sumTo_front _ _
    have e3 : sumTo (fun k => ch n k * a ^ k) (n + 1 + 1) = sumTo (fun k => ch n k * a ^ k) (n + 1) := by
      rw [sumTo, ch_over n (n + 1) (by omega), Nat.zero_mul, Nat.add_zero]
    rw [e1, sumTo_add, sumTo_mul, ← ih]
    rw [ch_zero] at e2
    rw [e3, ← ih] at e2
    rw [Nat.pow_succ, Nat.mul_add, Nat.mul_one, Nat.mul_comm _ a]
    omega
theorem fermat_add (r : Nat) (h : IsP r) (a : Nat) : (a + 1) ^ r % r = (a ^ r + 1) % r := by
  obtain ⟨m, rfl⟩ : ∃ m, r = m + 1 := ⟨r - 1, by have := h.1; omega⟩
  rw [binom a (m + 1), sumTo, sumTo_front, ch_self, ch_zero, Nat.pow_zero, Nat.one_mul, Nat.one_mul]
  have hd : (m + 1) ∣ sumTo (fun k => ch (m + 1) (k + 1) * a ^ (k + 1)) m := sumTo_dvd _ _ _ fun k hk => by
    have h1 : (m + 1) ∣ ch (m + 1) (k + 1) * (k + 1) := ⟨ch m k, ch_mul m k⟩
    rcases h.euclid h1 with h2 | h2
    · exact Nat.dvd_trans h2 ⟨_, rfl⟩
    · have := Nat.le_of_dvd (by omega) h2; omega
  obtain ⟨c, hc⟩ := hd
  rw [hc, show 1 + (m + 1) * c + a ^ (m + 1) = a ^ (m + 1) + 1 + (m + 1) * c by omega, Nat.add_mul_mod_self_left]
theorem fermat0 (r : Nat) (h : IsP r) : ∀ a, a ^ r % r = a % r := by
  intro a
  induction a with
  | zero => rw [Nat.zero_pow (by have := h.1; omega)]
  | succ a ih => rw [fermat_add r h a, Nat.add_mod, ih, ← Nat.add_mod]
theorem fermat (r : Nat) (h : IsP r) (a : Nat) (hn : a % r ≠ 0) : a ^ (r - 1) % r = 1 := by
  have h2 := h.1
  have h0 := fermat0 r h a
  obtain ⟨m, rfl⟩ : ∃ m, r = m + 1 := ⟨r - 1, by omega⟩
  rw [Nat.add_sub_cancel]
  have hpos : 0 < a ^ m := Nat.pow_pos (by rcases Nat.eq_zero_or_pos a with e | e; (subst e; simp at hn); exact e)
  have hd : (m + 1) ∣ a * (a ^ m - 1) := by
    rw [Nat.mul_sub, Nat.mul_one, Nat.mul_comm, ← Nat.pow_succ]
    exact (dvd_sub_mod a (a ^ (m + 1)) (m + 1) h0)
  rcases h.euclid hd with h3 | h3
  · exact absurd (Nat.mod_eq_zero_of_dvd h3) hn
  · obtain ⟨c, hc⟩ := h3
    rw [show a ^ m = 1 + (m + 1) * c by omega, Nat.add_mul_mod_self_left, Nat.mod_eq_of_lt (by omega)]
theorem pock_one {n q c a r : Nat} (hq : IsP q) (hc : n - 1 = q * c) (h1 : a ^ (n - 1) % n = 1) (h2 : Nat.gcd (a ^ c % n + (n - 1)) n = 1) (hn : 2 ≤ n) (hr : IsP r) (hd : r ∣ n) : q ∣ r - 1 := by
  have h1r : a ^ (n - 1) % r = 1 % r := by
    rw [← Nat.mod_mod_of_dvd (a ^ (n - 1)) hd, h1]
  have har : a % r ≠ 0 := by
    intro h0
    have h3 : a ^ (n - 1) % r = 0 := by
      obtain ⟨k, hk⟩ : ∃ k, n - 1 = k + 1 := ⟨n - 2, by omega⟩
      rw [hk, Nat.pow_succ, Nat.mul_mod, h0, Nat.mul_zero, Nat.zero_mod]
    have := hr.1
    rw [h3, Nat.mod_eq_of_lt (by omega)] at h1r; omega
  have hf : a ^ (r - 1) % r = 1 % r := by rw [fermat r hr a har, Nat.mod_eq_of_lt (by have := hr.1; omega)]
  apply Classical.byContradiction
  intro hqn
  have hg : Nat.gcd (q * c) (r - 1) ∣ c := by
    have hcop : Nat.Coprime (Nat.gcd (q * c) (r - 1)) q :=
      (show Nat.Coprime (r - 1) q from Nat.Coprime.symm (hq.coprime hqn)).coprime_dvd_left (Nat.gcd_dvd_right _ _)
    exact hcop.dvd_of_dvd_mul_left (Nat.gcd_dvd_left _ _)
  have h4 := pow_one_gcd (a := a) (n := r) (n - 1) (r - 1) h1r hf
  rw [hc] at h4
  obtain ⟨k, hk⟩ := hg
  have h5 : a ^ c % r = 1 % r := by
    obtain ⟨g, hgd⟩ : ∃ g, g = Nat.gcd (q * c) (r - 1) := ⟨_, rfl⟩
    rw [← hgd] at h4 hk
    rw [hk]; exact pow_one_mul h4 k
  have hr1 : r ∣ a ^ c % n + (n - 1) := by
    obtain ⟨e, he⟩ := hd
    have h6 : (a ^ c % n) % r = 1 % r := by rw [Nat.mod_mod_of_dvd _ ⟨e, he⟩]; exact h5
    have h7 : (a ^ c % n + (n - 1)) % r = (1 + (n - 1)) % r := by rw [Nat.add_mod, h6, ← Nat.add_mod]
    rw [show 1 + (n - 1) = n by omega, he, Nat.mul_mod_right] at h7
    rw [← he] at h7
    exact Nat.dvd_of_mod_eq_zero h7
  have h8 := Nat.dvd_gcd hr1 hd
  rw [h2] at h8
  have := Nat.le_of_dvd (by omega) h8
  have := hr.1
  omega
theorem prime_of {n F : Nat} (hn : 2 ≤ n) (hF : n < F * F) (hF2 : 1 ≤ F) (h : ∀ r, IsP r → r ∣ n → F ∣ r - 1) : IsP n := by
  obtain ⟨r, hr, hd, hs⟩ := prime_div n n (Nat.le_refl _) hn
  apply Classical.byContradiction
  intro hnp
  have h3 := hs hnp
  have hle := Nat.le_of_dvd (by have := hr.1; omega) (h r hr hd)
  have : F * F ≤ r * r := Nat.mul_le_mul (by omega) (by omega)
  omega
theorem pock1 {n q c a : Nat} (hq : IsP q) (hn : 2 ≤ n) (hc : n - 1 = q * c) (h1 : a ^ (n - 1) % n = 1) (h2 : Nat.gcd (a ^ c % n + (n - 1)) n = 1) (hF : n < q * q) : IsP n :=
  prime_of hn hF (by have := hq.1; omega) fun r hr hd => pock_one hq hc h1 h2 hn hr hd
theorem pock2 {n q c s d a : Nat} (hq : IsP q) (hs : IsP s) (hqs : Nat.gcd q s = 1) (hn : 2 ≤ n) (hc : n - 1 = q * c) (hd : n - 1 = s * d) (h1 : a ^ (n - 1) % n = 1)
    (h2 : Nat.gcd (a ^ c % n + (n - 1)) n = 1) (h3 : Nat.gcd (a ^ d % n + (n - 1)) n = 1) (hF : n < (q * s) * (q * s)) : IsP n :=
  prime_of hn hF (by have := Nat.mul_le_mul hq.1 hs.1; omega) fun r hr hd' =>
    Nat.Coprime.mul_dvd_of_dvd_of_dvd hqs (pock_one hq hc h1 h2 hn hr hd') (pock_one hs hd h1 h3 hn hr hd')
def pmG (n a : Nat) : Nat → Nat → Nat
  | 0, _ => 1 % n
  | f + 1, e => (if e % 2 = 1 then a else 1) * (pmG n a f (e / 2) * pmG n a f (e / 2) % n) % n
theorem pmG_eq (n a : Nat) : ∀ f e, e < 2 ^ f → pmG n a f e = a ^ e % n := by
  intro f
  induction f with
  | zero => intro e h; obtain rfl : e = 0 := by simp at h; exact h
            rfl
  | succ f ih =>
    intro e h
    have h2 : e / 2 < 2 ^ f := by rw [Nat.pow_succ] at h; omega
    rw [pmG, ih _ h2]
    have e1 : a ^ e = (if e % 2 = 1 then a else 1) * (a ^ (e / 2) * a ^ (e / 2)) := by
      rw [← Nat.pow_add]
      by_cases h1 : e % 2 = 1
      · rw [if_pos h1, Nat.mul_comm, ← Nat.pow_succ]; congr 1; omega
      · rw [if_neg h1, Nat.one_mul]; congr 1; omega
    rw [e1, Nat.mul_mod _ ((a ^ (e / 2) % n) * (a ^ (e / 2) % n) % n), Nat.mod_mod, ← Nat.mul_mod (a ^ (e / 2)), ← Nat.mul_mod]
theorem pockF1 {n q c a : Nat} (f : Nat) (hq : IsP q) (hn : 2 ≤ n) (hc : n - 1 = q * c) (hl : n - 1 < 2 ^ f) (hlc : c < 2 ^ f) (h1 : pmG n a f (n - 1) = 1) (h2 : Nat.gcd (pmG n a f c + (n - 1)) n = 1) (hF : n < q * q) : IsP n := by
  rw [pmG_eq _ _ _ _ hl] at h1
  rw [pmG_eq _ _ _ _ hlc] at h2
  exact pock1 hq hn hc h1 h2 hF
theorem pockF2 {n q c s d a : Nat} (f : Nat) (hq : IsP q) (hs : IsP s) (hqs : Nat.gcd q s = 1) (hn : 2 ≤ n) (hc : n - 1 = q * c) (hd : n - 1 = s * d) (hl : n - 1 < 2 ^ f) (hlc : c < 2 ^ f) (hld : d < 2 ^ f)
    (h1 : pmG n a f (n - 1) = 1) (h2 : Nat.gcd (pmG n a f c + (n - 1)) n = 1) (h3 : Nat.gcd (pmG n a f d + (n - 1)) n = 1) (hF : n < (q * s) * (q * s)) : IsP n := by
  rw [pmG_eq _ _ _ _ hl] at h1
  rw [pmG_eq _ _ _ _ hlc] at h2
  rw [pmG_eq _ _ _ _ hld] at h3
  exact pock2 hq hs hqs hn hc hd h1 h2 h3 hF
theorem ip_47 : IsP 47 := prime_trial 47 7 (by decide) (by decide) (by decide +kernel)
theorem ip_353 : IsP 353 := prime_trial 353 19 (by decide) (by decide) (by decide +kernel)
theorem ip_75707 : IsP 75707 := prime_trial 75707 276 (by decide) (by decide) (by decide +kernel)
theorem ip_C : IsP 8574133 := prime_trial 8574133 2929 (by decide) (by decide) (by decide +kernel)
theorem ip_B : IsP 1919519569386763 :=
  pockF2 (q := 8574133) (c := 223873314) (s := 47) (d := 40840841901846) (a := 2) 64 ip_C ip_47 (by decide +kernel) (by decide +kernel) (by decide +kernel) (by decide +kernel) (by decide +kernel) (by decide +kernel) (by decide +kernel) (by decide +kernel) (by decide +kernel) (by decide +kernel) (by decide +kernel)
theorem ip_A : IsP 75445702479781427272750846543864801 :=
  pockF2 (q := 1919519569386763) (c := 39304471641247389600) (s := 75707) (d := 996548568557483816196003626400) (a := 2) 128 ip_B ip_75707 (by decide +kernel) (by decide +kernel) (by decide +kernel) (by decide +kernel) (by decide +kernel) (by decide +kernel) (by decide +kernel) (by decide +kernel) (by decide +kernel) (by decide +kernel) (by decide +kernel)
theorem ip_q1 : IsP 74058212732561358302231226437062788676166966415465897661863160754340907 :=
  pockF2 (q := 75445702479781427272750846543864801) (c := 981609426360740691344999861639072106) (s := 353) (d := 209796636636151156663544550813209033076960244803019540118592523383402) (a := 2) 256 ip_A ip_353 (by decide +kernel) (by decide +kernel) (by decide +kernel) (by decide +kernel) (by decide +kernel) (by decide +kernel) (by decide +kernel) (by decide +kernel) (by decide +kernel) (by decide +kernel) (by decide +kernel)
theorem ip_p : IsP 57896044618658097711785492504343953926634992332820282019728792003956564819949 :=
  pockF1 (q := 74058212732561358302231226437062788676166966415465897661863160754340907) (c := 781764) (a := 2) 256 ip_q1 (by decide +kernel) (by decide +kernel) (by decide +kernel) (by decide +kernel) (by decide +kernel) (by decide +kernel) (by decide +kernel)
end Go.Proofs.YtejnnghfelpioaaGreat
namespace Go.Proofs.YtejnnghfelpioaaGreat
open Go.RowKit
instance pN_ne : NeZero pN := ⟨by decide +kernel⟩
theorem pN_isP : IsP pN := ip_p
abbrev FP := Fin pN
def nF (n : Nat) : FP := ⟨n % pN, Nat.mod_lt _ pN_pos⟩
theorem nF_val (n : Nat) : (nF n).val = n % pN := rfl
theorem nF_eq {a b : Nat} (h : a % pN = b % pN) : nF a = nF b := Fin.ext h
theorem nF_mul (a b : Nat) : nF (a * b) = nF a * nF b := Fin.ext (by rw [Fin.val_mul, nF_val, nF_val, nF_val, ← Nat.mul_mod])
theorem nF_add (a b : Nat) : nF (a + b) = nF a + nF b := Fin.ext (by rw [Fin.val_add, nF_val, nF_val, nF_val, ← Nat.add_mod])
theorem nF_one : nF 1 = 1 := Fin.ext (by decide +kernel)
theorem nF_zero : nF 0 = 0 := Fin.ext (by decide +kernel)
def iF (z : FP) : FP := nF (powP z.val (pN - 2))
theorem iF_nF (a : Nat) : iF (nF a) = nF (powP a (pN - 2)) := by
  unfold iF powP; rw [nF_val, ← Nat.pow_mod]
theorem iF_mul (a b : FP) : iF (a * b) = iF a * iF b := by
  unfold iF powP
  rw [← nF_mul]
  refine nF_eq ?_
  rw [Nat.mod_mod, Fin.val_mul, ← Nat.pow_mod, Nat.mul_pow, Nat.mul_mod]
theorem mul_iF (a : FP) (h : a ≠ 0) : a * iF a = 1 := by
  rw [← nF_one]
  unfold iF powP
  refine Fin.ext ?_
  rw [Fin.val_mul, nF_val, nF_val, Nat.mod_mod, Nat.mul_mod, Nat.mod_mod, ← Nat.mul_mod, Nat.mul_comm, ← Nat.pow_succ, show (pN - 2).succ = pN - 1 by decide +kernel]
  rw [fermat pN pN_isP a.val ?_, Nat.mod_eq_of_lt (show 1 < pN by decide +kernel)]
  intro h0
  rw [Nat.mod_eq_of_lt a.isLt] at h0
  exact h (Fin.ext (by rw [h0]; rfl))
def fv (f : F5) : FP := nF (val5 f)
theorem fv_mul (f g : F5) : fv (mul5 f g) = fv f * fv g := by
  unfold fv; rw [← nF_mul]; exact nF_eq (mul5_mod f g)
theorem fv_add (f g : F5) : fv (add5 f g) = fv f + fv g := by
  unfold fv; rw [← nF_add]; exact nF_eq (add5_mod f g)
theorem fv_sub (f g : F5) (hg : T5 g) : fv (sub5 f g) = fv f - fv g := by
  have h : nF (val5 (sub5 f g)) + nF (val5 g) = nF (val5 f) := by rw [← nF_add]; exact nF_eq (sub5_mod f g hg)
  unfold fv; grind
theorem fv_inv (f : F5) : fv (inv5 f) = iF (fv f) := by
  unfold fv; rw [iF_nF]
  refine nF_eq ?_
  rw [inv5_val]; unfold powP; rw [Nat.mod_mod]
theorem fv_of (x : Nat) : fv (fOf x) = nF x := by unfold fv; rw [fOf_val]
theorem fv_one : fv one5 = 1 := nF_one
theorem fv_zero : fv zero5 = 0 := nF_zero
def iI (v : Int) : FP := nF (v % pI).toNat
theorem pI_pos : 0 < pI := by decide +kernel
theorem pI_nat2 : pI = (pN : Int) := by decide +kernel
theorem toNat_mod (v : Int) : ((v % pI).toNat : Int) = v % pI := Int.toNat_of_nonneg (Int.emod_nonneg _ (by decide +kernel))
theorem iI_is (v : Int) (n : Nat) (h : v % pI = (n : Int) % pI) : iI v = nF n := by
  refine nF_eq ?_
  have h1 := toNat_mod v
  have h2 : ((v % pI).toNat : Int) = ((n % pN : Nat) : Int) := by rw [h1, h, pI_nat2]; rfl
  have h3 : (v % pI).toNat = n % pN := Int.ofNat_inj.1 h2
  rw [h3, Nat.mod_mod]
theorem iI_mul (a b v : Int) (h : v % pI = a * b % pI) : iI v = iI a * iI b := by
  unfold iI
  rw [← nF_mul]
  refine iI_is _ _ ?_
  rw [Int.natCast_mul, toNat_mod, toNat_mod, h, ← Int.mul_emod]
theorem iI_add (a b : Int) : iI (a + b) = iI a + iI b := by
  unfold iI
  rw [← nF_add]
  refine iI_is _ _ ?_
  rw [Int.natCast_add, toNat_mod, toNat_mod, ← Int.add_emod]
theorem iI_sub (a b : Int) : iI (a - b) = iI a - iI b := by
  have h : iI (a - b) + iI b = iI a := by rw [← iI_add]; congr 1; omega
  grind
def gv (g : G16) : FP := iI (val g.l)
theorem gv_mul (w : World) (a b : G16) (ha : BdG 1048576 a) (hb : BdG 1048576 b) : gv (timG a b) = gv a * gv b := iI_mul _ _ _ (timG_val w a b ha hb)
theorem gv_add (a b : G16) : gv (plusG a b) = gv a + gv b := by unfold gv; rw [plusG_val]; exact iI_add _ _
theorem gv_sub (a b : G16) : gv (minsG a b) = gv a - gv b := by unfold gv; rw [minsG_val]; exact iI_sub _ _
theorem gv_inv (w : World) (a : G16) (ha : BdG 1048576 a) : gv (invG a) = iF (gv a) := by
  have h := invL_val w a.l (val a.l % pI).toNat ha (by
    show _ = (((val a.l % pI).toNat % pN : Nat) : Int)
    rw [Int.natCast_emod, toNat_mod, ← pI_nat2, Int.emod_emod_of_dvd _ (Int.dvd_refl _)])
  unfold gv invG
  rw [ofL_l _ (invL_gd w a.l ha).1]
  show _ = iF (nF _)
  rw [iF_nF]
  refine iI_is _ _ ?_
  rw [h, pI_nat2]
  unfold powP
  rw [Int.natCast_emod, Int.emod_emod_of_dvd _ (Int.dvd_refl _)]
theorem gv_dg (x : Nat) (h : x < 2 ^ 256) : gv (dgG x) = nF x := by
  unfold gv dgG
  rw [ofL_l _ (dgL_len _), val_word x h]
  exact iI_is _ _ rfl
theorem gv_one : gv oneG = 1 := by
  have : gv oneG = nF 1 := iI_is _ _ (by decide +kernel)
  rw [this, nF_one]
theorem gv_zero : gv zeroG = 0 := by
  have : gv zeroG = nF 0 := iI_is _ _ (by decide +kernel)
  rw [this, nF_zero]
theorem smG_gv (g : G16) : smG g = (gv g).val := by
  unfold smG gv iI
  rw [nF_val]
  refine (Nat.mod_eq_of_lt ?_).symm
  have h1 := toNat_mod (val g.l)
  have h2 := Int.emod_lt_of_pos (val g.l) pI_pos
  rw [pI_nat2] at h2 h1
  rw [pI_nat2]
  omega
structure QF where
  x : FP
  y : FP
  z : FP
  t : FP
theorem QF.ext4 {p q : QF} (h1 : p.x = q.x) (h2 : p.y = q.y) (h3 : p.z = q.z) (h4 : p.t = q.t) : p = q := by
  cases p; cases q; simp only [QF.mk.injEq]; exact ⟨h1, h2, h3, h4⟩
def dF : FP := nF dN
def qfrom (e f g h : FP) : QF := ⟨e * f, g * h, f * g, e * h⟩
def qsum (p q : QF) : QF :=
  qfrom ((p.y + p.x) * (q.y + q.x) - (p.y - p.x) * (q.y - q.x)) (p.z * q.z + p.z * q.z - (p.t * q.t * dF + p.t * q.t * dF)) (p.z * q.z + p.z * q.z + (p.t * q.t * dF + p.t * q.t * dF)) ((p.y + p.x) * (q.y + q.x) + (p.y - p.x) * (q.y - q.x))
def qtwice (p : QF) : QF :=
  qfrom (p.x * p.x + p.y * p.y - (p.x + p.y) * (p.x + p.y)) (p.z * p.z + p.z * p.z + (p.x * p.x - p.y * p.y)) (p.x * p.x - p.y * p.y) (p.x * p.x + p.y * p.y)
def qopen (p : P2) : QF := ⟨nF p.x, nF p.y, 1, nF p.x * nF p.y⟩
def qnone : QF := ⟨0, 1, 1, 0⟩
def qclose (q : QF) : P2 := ⟨(q.x * iF q.z).val, (q.y * iF q.z).val⟩
def qW (p : W4) : QF := ⟨fv p.x, fv p.y, fv p.z, fv p.t⟩
def qG (p : F4) : QF := ⟨gv p.x, gv p.y, gv p.z, gv p.t⟩
theorem d25_fv : fv d25 = dF + dF := by
  unfold d25 dF
  rw [fv_of, ← nF_add, Nat.mod_eq_of_lt (show dN + dN < 2 ^ 256 by decide +kernel)]
theorem qW_plus (p q : W4) (hp : TW p) (hq : TW q) : qW (plusW p q) = qsum (qW p) (qW q) := by
  have a := mul5_t _ _ (sub5_t _ _ hp.y hp.x) (sub5_t _ _ hq.y hq.x)
  have c := mul5_t _ _ (mul5_t _ _ hp.t hq.t) d25_t
  unfold plusW fromW qW qsum qfrom
  simp only [fv_mul, fv_add, fv_sub _ _ hp.x, fv_sub _ _ hq.x, fv_sub _ _ a, fv_sub _ _ c, d25_fv]
  refine QF.ext4 ?_ ?_ ?_ ?_ <;> simp only <;> grind
theorem qW_twice (p : W4) (hp : TW p) : qW (twiceW p) = qtwice (qW p) := by
  have s := mul5_t _ _ (add5_t _ _ hp.x hp.y) (add5_t _ _ hp.x hp.y)
  have y2 := mul5_t _ _ hp.y hp.y
  unfold twiceW fromW qW qtwice qfrom
  simp only [fv_mul, fv_add, fv_sub _ _ s, fv_sub _ _ y2]
theorem qW_widen (p : P2) : qW (widenW p) = qopen p := by
  unfold widenW qW qopen
  simp only [fv_mul, fv_of, fv_one]
theorem qW_none : qW noneW = qnone := by
  unfold noneW qW qnone
  simp only [fv_one, fv_zero]
theorem qW_point (p : W4) : pointW p = qclose (qW p) := by
  unfold pointW qclose qW
  simp only [← fv_inv, ← fv_mul]
  rfl
theorem qG_sum (w : World) (p q : F4) (hp : BdF p) (hq : BdF q) : qG (sumG p q) = qsum (qG p) (qG q) := by
  obtain ⟨px, py, pz, ptt⟩ := hp
  obtain ⟨qx, qy, qz, qt⟩ := hq
  have m (x : G16) {B : Int} (h : BdG B x) (hB : B ≤ 1048576) : BdG 1048576 x := Gd.mono h hB
  have a1 := minsG_bd _ _ _ _ py px
  have a2 := minsG_bd _ _ _ _ qy qx
  have b1 := plusG_bd _ _ _ _ px py
  have b2 := plusG_bd _ _ _ _ qx qy
  have a := timG_bd6 w _ _ _ _ a1 a2 (by decide) (by decide)
  have b := timG_bd6 w _ _ _ _ b1 b2 (by decide) (by decide)
  have tt := timG_bd6 w _ _ _ _ ptt qt (by decide) (by decide)
  have c := timG_bd6 w _ _ _ _ tt dG_bd (by decide) (by decide)
  have c2 := plusG_bd _ _ _ _ c c
  have z := timG_bd6 w _ _ _ _ pz qz (by decide) (by decide)
  have z2 := plusG_bd _ _ _ _ z z
  have e := minsG_bd _ _ _ _ b a
  have f := minsG_bd _ _ _ _ z2 c2
  have g := plusG_bd _ _ _ _ z2 c2
  have h := plusG_bd _ _ _ _ b a
  have E := m _ e (by decide)
  have F := m _ f (by decide)
  have G := m _ g (by decide)
  have H := m _ h (by decide)
  have hd : gv dG = dF := by rw [dG_eq]; exact gv_dg dN dN_lt
  unfold sumG qG qsum qfrom
  simp only [gv_mul w _ _ E F, gv_mul w _ _ G H, gv_mul w _ _ F G, gv_mul w _ _ E H, gv_add, gv_sub, gv_mul w _ _ (m _ a1 (by decide)) (m _ a2 (by decide)), gv_mul w _ _ (m _ b1 (by decide)) (m _ b2 (by decide)), gv_mul w _ _ (m _ tt (by decide)) (m _ dG_bd (by decide)), gv_mul w _ _ (m _ ptt (by decide)) (m _ qt (by decide)), gv_mul w _ _ (m _ pz (by decide)) (m _ qz (by decide)), hd]
  refine QF.ext4 ?_ ?_ ?_ ?_ <;> simp only <;> grind
theorem qG_twice (w : World) (p : F4) (hp : BdF p) : qG (twiceG p) = qtwice (qG p) := by
  obtain ⟨px, py, pz, ptt⟩ := hp
  have m (x : G16) {B : Int} (h : BdG B x) (hB : B ≤ 1048576) : BdG 1048576 x := Gd.mono h hB
  have a := timG_bd6 w _ _ _ _ px px (by decide) (by decide)
  have b := timG_bd6 w _ _ _ _ py py (by decide) (by decide)
  have c := timG_bd6 w _ _ _ _ pz pz (by decide) (by decide)
  have s := plusG_bd _ _ _ _ px py
  have ss := timG_bd6 w _ _ _ _ s s (by decide) (by decide)
  have h := plusG_bd _ _ _ _ a b
  have e := minsG_bd _ _ _ _ h ss
  have g := minsG_bd _ _ _ _ a b
  have f := plusG_bd _ _ _ _ (plusG_bd _ _ _ _ c c) g
  have E := m _ e (by decide)
  have F := m _ f (by decide)
  have G := m _ g (by decide)
  have H := m _ h (by decide)
  unfold twiceG qG qtwice qfrom
  simp only [gv_mul w _ _ E F, gv_mul w _ _ G H, gv_mul w _ _ F G, gv_mul w _ _ E H, gv_add, gv_sub, gv_mul w _ _ (m _ px (by decide)) (m _ px (by decide)), gv_mul w _ _ (m _ py (by decide)) (m _ py (by decide)), gv_mul w _ _ (m _ pz (by decide)) (m _ pz (by decide)), gv_mul w _ _ (m _ s (by decide)) (m _ s (by decide))]
theorem qG_open (w : World) (p : P2) (hp : LtP p) : qG (openG p) = qopen p := by
  have m (x : Nat) : BdG 1048576 (dgG x) := Gd.mono (dgG_bd x) (by decide)
  unfold openG qG qopen
  simp only [gv_mul w _ _ (m _) (m _), gv_dg _ hp.x, gv_dg _ hp.y, gv_one]
theorem qG_none : qG noneF = qnone := by
  unfold noneF qG qnone
  simp only [gv_one, gv_zero]
theorem qG_close (w : World) (p : F4) (hp : BdF p) : closeG p = qclose (qG p) := by
  have m (x : G16) {B : Int} (h : BdG B x) (hB : B ≤ 1048576) : BdG 1048576 x := Gd.mono h hB
  have z := m _ hp.z (by decide)
  have i := m _ (invG_bd w _ z) (by decide)
  unfold closeG qclose qG
  simp only [smG_gv, gv_mul w _ _ (m _ hp.x (by decide)) i, gv_mul w _ _ (m _ hp.y (by decide)) i, gv_inv w _ z]
def qmul (n : Nat) (p : QF) : Nat → QF
  | 0 => qnone
  | m + 1 => if n / 2 ^ (255 - m) % 2 = 1 then qsum (qtwice (qmul n p m)) p else qtwice (qmul n p m)
theorem qG_many (w : World) (n : Nat) (p : F4) (hp : BdF p) : ∀ m, qG (mnG p n m) = qmul n (qG p) m
  | 0 => qG_none
  | m + 1 => by
    have ih := qG_many w n p hp m
    have hb := mnG_bd w p n hp m
    rw [mnG, qmul]
    split
    · rw [qG_sum w _ _ (twiceG_bd w _ hb) hp, qG_twice w _ hb, ih]
    · rw [qG_twice w _ hb, ih]
theorem qW_fold (n : Nat) (p : W4) (hp : TW p) : ∀ m, qW ((List.range m).foldl (stepW n p) noneW) = qmul n (qW p) m
  | 0 => qW_none
  | m + 1 => by
    have ih := qW_fold n p hp m
    have hb := foldW_t n p hp (List.range m) _ noneW_t
    rw [List.range_succ, List.foldl_append, qmul]
    show qW (stepW n p _ m) = _
    obtain ⟨o, ho⟩ : ∃ o, o = List.foldl (stepW n p) noneW (List.range m) := ⟨_, rfl⟩
    rw [← ho] at ih hb ⊢
    unfold stepW dbit
    by_cases h : n / 2 ^ (255 - m) % 2 = 1
    · rw [if_pos h, if_pos (by rw [h]; rfl), qW_plus _ _ (twiceW_t _ hb) hp, qW_twice _ hb, ih]
    · rw [if_neg h, if_neg (by rw [decide_eq_false h]; decide), qW_twice _ hb, ih]
theorem mul_same (n : Nat) (p : P2) (hp : LtP p) (w : World) : pointW (mW n (widenW p)) = closeG (manyG (openG p) n) := by
  unfold manyG mW
  rw [qW_point, qG_close w _ (mnG_bd w _ n (openG_bd w p) 256)]
  rw [qG_many w n _ (openG_bd w p), qW_fold n _ (widenW_t p hp), qG_open w p hp, qW_widen]
def onC (x y : FP) : Prop := y * y - x * x = 1 + dF * (x * x * (y * y))
theorem sub_val (a b : Nat) : subP a b = (nF a - nF b).val := by
  have h : nF (subP a b) = nF a - nF b := by
    have : nF (subP a b) + nF b = nF a := by
      rw [← nF_add]
      refine nF_eq ?_
      unfold subP
      rw [Nat.add_mod, Nat.mod_mod, ← Nat.add_mod]
      have h1 := Nat.mod_lt b pN_pos
      have h2 := Nat.div_add_mod b pN
      rw [show a + (pN - b % pN) + b = a + pN * (b / pN + 1) by rw [Nat.mul_add, Nat.mul_one]; omega, Nat.add_mul_mod_self_left]
    grind
  rw [← h, nF_val]
  unfold subP; rw [Nat.mod_mod]
theorem onL_val (p : P2) : onL p = (nF p.y * nF p.y - nF p.x * nF p.x).val := by
  unfold onL
  rw [sub_val, ← nF_mul, ← nF_mul]
  rw [nF_eq (show p.y * p.y % pN % pN = p.y * p.y % pN from Nat.mod_mod _ _), nF_eq (show p.x * p.x % pN % pN = p.x * p.x % pN from Nat.mod_mod _ _)]
theorem onR_val (p : P2) : onR p = (1 + dF * (nF p.x * nF p.x * (nF p.y * nF p.y))).val := by
  unfold onR
  rw [← nF_one]
  unfold dF
  rw [← nF_mul, ← nF_mul, ← nF_mul, ← nF_mul, ← nF_add, nF_val]
  simp [Nat.add_mod, Nat.mul_mod]
theorem onLG_val (w : World) (p : P2) (hp : LtP p) : onLG p = (nF p.y * nF p.y - nF p.x * nF p.x).val := by
  have m (x : Nat) : BdG 1048576 (dgG x) := Gd.mono (dgG_bd x) (by decide)
  unfold onLG y2G x2G
  rw [smG_gv, gv_sub, gv_mul w _ _ (m _) (m _), gv_mul w _ _ (m _) (m _), gv_dg _ hp.x, gv_dg _ hp.y]
theorem onRG_val (w : World) (p : P2) (hp : LtP p) : onRG p = (1 + dF * (nF p.x * nF p.x * (nF p.y * nF p.y))).val := by
  have m (x : Nat) : BdG 1048576 (dgG x) := Gd.mono (dgG_bd x) (by decide)
  have k (x : G16) (h : BdG 65600 x) : BdG 1048576 x := Gd.mono h (by decide)
  have bx := timG_bd w _ _ (m p.x) (m p.x)
  have bY := timG_bd w _ _ (m p.y) (m p.y)
  have bxy := timG_bd w _ _ (k _ bx) (k _ bY)
  have hd : gv dG = dF := by rw [dG_eq]; exact gv_dg dN dN_lt
  unfold onRG y2G x2G
  rw [smG_gv, gv_add, gv_one, gv_mul w _ _ (k _ dG_bd) (k _ bxy), hd, gv_mul w _ _ (k _ bx) (k _ bY), gv_mul w _ _ (m _) (m _), gv_mul w _ _ (m _) (m _), gv_dg _ hp.x, gv_dg _ hp.y]
theorem smB_val (x : Nat) (h : x < 2 ^ 256) : smB x = decide (x < pN) := by
  unfold smB
  rw [smG_gv, gv_dg x h, nF_val]
  refine decide_eq_decide.2 ⟨fun e => ?_, fun e => Nat.mod_eq_of_lt e⟩
  rw [← e]; exact Nat.mod_lt _ pN_pos
theorem on_same (w : World) (p : P2) (hp : LtP p) : onB p = onG p := by
  unfold onB onG
  rw [smB_val _ hp.x, smB_val _ hp.y, onL_val, onR_val, onLG_val w p hp, onRG_val w p hp, Bool.and_assoc]
theorem onB_onC {p : P2} (h : onB p = true) : p.x < pN ∧ p.y < pN ∧ onC (nF p.x) (nF p.y) := by
  unfold onB at h
  simp only [Bool.and_eq_true, decide_eq_true_eq] at h
  refine ⟨h.1, h.2.1, Fin.ext ?_⟩
  rw [← onL_val, ← onR_val]; exact h.2.2
theorem qclose_scale (k : FP) (hk : k ≠ 0) (p q : QF) (hx : q.x = k * p.x) (hy : q.y = k * p.y) (hz : q.z = k * p.z) : qclose q = qclose p := by
  have h1 := mul_iF k hk
  unfold qclose
  rw [hx, hy, hz, iF_mul]
  congr 2 <;> grind
theorem F_neg0 (x : FP) (h : -x = 0) : x = 0 := by grind
theorem F_four : -((1 : FP) + 1 + 1 + 1) ≠ 0 := by
  intro h
  have h4 : nF 4 = 1 + 1 + 1 + 1 := by
    rw [show (4 : Nat) = 1 + 1 + 1 + 1 from rfl, nF_add, nF_add, nF_add, nF_one]
  have h0 : nF 4 = nF 0 := by rw [h4, nF_zero]; exact F_neg0 _ h
  have h1 := congrArg Fin.val h0
  rw [nF_val, nF_val] at h1
  exact absurd h1 (by decide +kernel)
theorem twice_same (p : P2) (h : onC (nF p.x) (nF p.y)) : qclose (qsum (qopen p) (qopen p)) = qclose (qtwice (qopen p)) := by
  unfold onC at h
  refine qclose_scale _ F_four _ _ ?_ ?_ ?_ <;> unfold qsum qtwice qfrom qopen <;> simp only <;> grind
theorem add_law (w : World) (a b : P2) (ha : LtP a) (hb : LtP b) : addP a b = raddP a b := by
  unfold addP raddP
  rw [← on_same w a ha, ← on_same w b hb]
  split
  · rename_i ho
    rw [Bool.and_eq_true] at ho
    have hs : closeG (sumG (openG a) (openG b)) = qclose (qsum (qopen a) (qopen b)) := by
      rw [qG_close w _ (sumG_bd w _ _ (openG_bd w a) (openG_bd w b)), qG_sum w _ _ (openG_bd w a) (openG_bd w b), qG_open w a ha, qG_open w b hb]
    rw [hs]
    split
    · rename_i he
      have : b = a := by cases a; cases b; simp only [P2.mk.injEq]; exact ⟨he.1.symm, he.2.symm⟩
      rw [this, twice_same a (onB_onC ho.1).2.2, qW_point, qW_twice _ (widenW_t a ha), qW_widen]
    · rw [qW_point, qW_plus _ _ (widenW_t a ha) (widenW_t b hb), qW_widen, qW_widen]
  · rfl
theorem mul_law (w : World) (n : Nat) (p : P2) (hp : LtP p) : mulP n p = rmulP n p := by
  unfold mulP rmulP
  rw [← on_same w p hp]
  split
  · exact mul_same n p hp w
  · rfl
end Go.Proofs.YtejnnghfelpioaaGreat
namespace Go.Proofs.YtejnnghfelpioaaGreat
open Go.RowKit
def qboth (x y : Nat) (p q s : QF) : Nat → QF
  | 0 => qnone
  | m + 1 => if x / 2 ^ (255 - m) % 2 = 1 then (if y / 2 ^ (255 - m) % 2 = 1 then qsum (qtwice (qboth x y p q s m)) s else qsum (qtwice (qboth x y p q s m)) p) else (if y / 2 ^ (255 - m) % 2 = 1 then qsum (qtwice (qboth x y p q s m)) q else qtwice (qboth x y p q s m))
theorem qW_bfold (x y : Nat) (p q s : W4) (hp : TW p) (hq : TW q) (hs : TW s) : ∀ m, qW (bfold x y p q s (List.range m)).1 = qboth x y (qW p) (qW q) (qW s) m
  | 0 => qW_none
  | m + 1 => by
    have ih := qW_bfold x y p q s hp hq hs m
    have hb := bfold_t x y p q s hp hq hs (List.range m)
    have hl := bfold_len x y p q s (List.range m)
    rw [List.range_succ, bfold_snoc, qboth]
    rw [List.length_range] at hl
    rw [hl]
    obtain ⟨o, ho⟩ : ∃ o, o = (bfold x y p q s (List.range m)).1 := ⟨_, rfl⟩
    rw [← ho] at ih hb ⊢
    unfold bstep dbit
    by_cases h1 : x / 2 ^ (255 - m) % 2 = 1
    · rw [if_pos h1, if_pos (by rw [h1]; rfl)]
      by_cases h2 : y / 2 ^ (255 - m) % 2 = 1
      · rw [if_pos h2, if_pos (by rw [h2]; rfl), qW_plus _ _ (twiceW_t _ hb) hs, qW_twice _ hb, ih]
      · rw [if_neg h2, if_neg (by rw [decide_eq_false h2]; decide), qW_plus _ _ (twiceW_t _ hb) hp, qW_twice _ hb, ih]
    · rw [if_neg h1, if_neg (by rw [decide_eq_false h1]; decide)]
      by_cases h2 : y / 2 ^ (255 - m) % 2 = 1
      · rw [if_pos h2, if_pos (by rw [h2]; rfl), qW_plus _ _ (twiceW_t _ hb) hq, qW_twice _ hb, ih]
      · rw [if_neg h2, if_neg (by rw [decide_eq_false h2]; decide), qW_twice _ hb, ih]
theorem qW_both (x y : Nat) (p q : W4) (hp : TW p) (hq : TW q) : qW (bothW x p y q) = qboth x y (qW p) (qW q) (qsum (qW p) (qW q)) 256 := by
  unfold bothW
  rw [qW_bfold x y p q _ hp hq (plusW_t _ _ hp hq), qW_plus _ _ hp hq]
structure NQ where
  x : Nat
  y : Nat
  z : Nat
  t : Nat
def toQ (p : NQ) : QF := ⟨nF p.x, nF p.y, nF p.z, nF p.t⟩
theorem nF_mod (a : Nat) : nF (a % pN) = nF a := nF_eq (Nat.mod_mod _ _)
theorem nF_sub (a b : Nat) : nF (subP a b) = nF a - nF b := by
  refine Fin.ext ?_
  rw [← sub_val, nF_val]
  unfold subP; rw [Nat.mod_mod]
def nm (a b : Nat) : Nat := a * b % pN
theorem nF_nm (a b : Nat) : nF (nm a b) = nF a * nF b := by unfold nm; rw [nF_mod, nF_mul]
def nfrom (e f g h : Nat) : NQ := ⟨nm e f, nm g h, nm f g, nm e h⟩
def nsum (p q : NQ) : NQ :=
  nfrom (subP (nm (p.y + p.x) (q.y + q.x)) (nm (subP p.y p.x) (subP q.y q.x))) (subP (nm p.z q.z + nm p.z q.z) (nm (nm p.t q.t) dN + nm (nm p.t q.t) dN)) (nm p.z q.z + nm p.z q.z + (nm (nm p.t q.t) dN + nm (nm p.t q.t) dN)) (nm (p.y + p.x) (q.y + q.x) + nm (subP p.y p.x) (subP q.y q.x))
def ntwice (p : NQ) : NQ :=
  nfrom (subP (nm p.x p.x + nm p.y p.y) (nm (p.x + p.y) (p.x + p.y))) (nm p.z p.z + nm p.z p.z + subP (nm p.x p.x) (nm p.y p.y)) (subP (nm p.x p.x) (nm p.y p.y)) (nm p.x p.x + nm p.y p.y)
theorem toQ_sum (p q : NQ) : toQ (nsum p q) = qsum (toQ p) (toQ q) := by
  unfold nsum nfrom toQ qsum qfrom dF
  simp only [nF_nm, nF_sub, nF_add]
theorem toQ_twice (p : NQ) : toQ (ntwice p) = qtwice (toQ p) := by
  unfold ntwice nfrom toQ qtwice qfrom
  simp only [nF_nm, nF_sub, nF_add]
def nnone : NQ := ⟨0, 1, 1, 0⟩
theorem toQ_none : toQ nnone = qnone := by unfold toQ nnone qnone; rw [nF_zero, nF_one]
def nopen (p : P2) : NQ := ⟨p.x, p.y, 1, nm p.x p.y⟩
theorem toQ_open (p : P2) : toQ (nopen p) = qopen p := by unfold toQ nopen qopen; rw [nF_nm, nF_one]
def nmul (n : Nat) (p : NQ) : Nat → NQ
  | 0 => nnone
  | m + 1 => if n / 2 ^ (255 - m) % 2 = 1 then nsum (ntwice (nmul n p m)) p else ntwice (nmul n p m)
theorem toQ_mul (n : Nat) (p : NQ) : ∀ m, toQ (nmul n p m) = qmul n (toQ p) m
  | 0 => toQ_none
  | m + 1 => by
    have ih := toQ_mul n p m
    rw [nmul, qmul]
    split
    · rw [toQ_sum, toQ_twice, ih]
    · rw [toQ_twice, ih]
def nboth (x y : Nat) (p q s : NQ) : Nat → NQ
  | 0 => nnone
  | m + 1 => if x / 2 ^ (255 - m) % 2 = 1 then (if y / 2 ^ (255 - m) % 2 = 1 then nsum (ntwice (nboth x y p q s m)) s else nsum (ntwice (nboth x y p q s m)) p) else (if y / 2 ^ (255 - m) % 2 = 1 then nsum (ntwice (nboth x y p q s m)) q else ntwice (nboth x y p q s m))
theorem toQ_both (x y : Nat) (p q s : NQ) : ∀ m, toQ (nboth x y p q s m) = qboth x y (toQ p) (toQ q) (toQ s) m
  | 0 => toQ_none
  | m + 1 => by
    have ih := toQ_both x y p q s m
    rw [nboth, qboth]
    split
    · split
      · rw [toQ_sum, toQ_twice, ih]
      · rw [toQ_sum, toQ_twice, ih]
    · split
      · rw [toQ_sum, toQ_twice, ih]
      · rw [toQ_twice, ih]
theorem iF_pm (a : Nat) : iF (nF a) = nF (pmF a 256 (pN - 2)) := by rw [iF_nF, pow2 a _ (by decide +kernel)]
theorem qclose_toQ (p : NQ) : qclose (toQ p) = ⟨nm p.x (pmF p.z 256 (pN - 2)), nm p.y (pmF p.z 256 (pN - 2))⟩ := by
  unfold qclose toQ
  simp only
  rw [iF_pm, ← nF_mul, ← nF_mul]
  rfl
def nmulP (n : Nat) (p : P2) : P2 := let q := nmul n (nopen p) 256; ⟨nm q.x (pmF q.z 256 (pN - 2)), nm q.y (pmF q.z 256 (pN - 2))⟩
theorem mulP_eval (n : Nat) (p : P2) (hp : LtP p) (ho : onB p = true) : mulP n p = nmulP n p := by
  unfold mulP mW nmulP
  rw [if_pos ho, qW_point, qW_fold n _ (widenW_t p hp), qW_widen, ← toQ_open, ← toQ_mul, qclose_toQ]
end Go.Proofs.YtejnnghfelpioaaGreat
namespace Go.Proofs.YtejnnghfelpioaaGreat
open Go.RowKit
theorem rot_any (x : BitVec 64) (k : Int) (w : World) :
    Calls Tryz.prog 139 #[.int .u64 (iv x), .int .i64 k] w fun e w' => e = .returned (.int .u64 (iv (x.rotateLeft (k % 64).toNat))) ∧ Below w.heap.size w w' := by
  have hm := mask63 k
  obtain ⟨n, hn⟩ : ∃ n : Nat, (n : Int) = k % 64 := ⟨(k % 64).toNat, by omega⟩
  rw [← hn] at hm ⊢
  have hn64 : n < 64 := by omega
  clear hn
  have h0 := iv_nonneg x
  have HR := hid (rot_spell x n hn64)
  rw [Int.toNat_natCast]
  go_enter Tryz.func139, Tryz.ntmps139
  go_wp2
  go_ret
  exact ⟨ret_int HR.out, Below.refl _ _⟩
end Go.Proofs.YtejnnghfelpioaaGreat
namespace Go.Proofs.YtejnnghfelpioaaGreat
open Go.RowKit
def shaK : List (BitVec 64) := [0x428a2f98d728ae22, 0x7137449123ef65cd, 0xb5c0fbcfec4d3b2f, 0xe9b5dba58189dbbc, 0x3956c25bf348b538, 0x59f111f1b605d019, 0x923f82a4af194f9b, 0xab1c5ed5da6d8118, 0xd807aa98a3030242, 0x12835b0145706fbe, 0x243185be4ee4b28c, 0x550c7dc3d5ffb4e2, 0x72be5d74f27b896f, 0x80deb1fe3b1696b1, 0x9bdc06a725c71235, 0xc19bf174cf692694, 0xe49b69c19ef14ad2, 0xefbe4786384f25e3, 0x0fc19dc68b8cd5b5, 0x240ca1cc77ac9c65, 0x2de92c6f592b0275, 0x4a7484aa6ea6e483, 0x5cb0a9dcbd41fbd4, 0x76f988da831153b5, 0x983e5152ee66dfab, 0xa831c66d2db43210, 0xb00327c898fb213f, 0xbf597fc7beef0ee4, 0xc6e00bf33da88fc2, 0xd5a79147930aa725, 0x06ca6351e003826f, 0x142929670a0e6e70, 0x27b70a8546d22ffc, 0x2e1b21385c26c926, 0x4d2c6dfc5ac42aed, 0x53380d139d95b3df, 0x650a73548baf63de, 0x766a0abb3c77b2a8, 0x81c2c92e47edaee6, 0x92722c851482353b, 0xa2bfe8a14cf10364, 0xa81a664bbc423001, 0xc24b8b70d0f89791, 0xc76c51a30654be30, 0xd192e819d6ef5218, 0xd69906245565a910, 0xf40e35855771202a, 0x106aa07032bbd1b8, 0x19a4c116b8d2d0c8, 0x1e376c085141ab53, 0x2748774cdf8eeb99, 0x34b0bcb5e19b48a8, 0x391c0cb3c5c95a63, 0x4ed8aa4ae3418acb, 0x5b9cca4f7763e373, 0x682e6ff3d6b2b8a3, 0x748f82ee5defb2fc, 0x78a5636f43172f60, 0x84c87814a1f0ab72, 0x8cc702081a6439ec, 0x90befffa23631e28, 0xa4506cebde82bde9, 0xbef9a3f7b2c67915, 0xc67178f2e372532b, 0xca273eceea26619c, 0xd186b8c721c0c207, 0xeada7dd6cde0eb1e, 0xf57d4f7fee6ed178, 0x06f067aa72176fba, 0x0a637dc5a2c898a6, 0x113f9804bef90dae, 0x1b710b35131c471b, 0x28db77f523047d84, 0x32caab7b40c72493, 0x3c9ebe0a15c9bebc, 0x431d67c49c100d4c, 0x4cc5d4becb3e42b6, 0x597f299cfc657e2a, 0x5fcb6fab3ad6faec, 0x6c44198c4a475817]
def shaH : List (BitVec 64) := [0x6a09e667f3bcc908, 0xbb67ae8584caa73b, 0x3c6ef372fe94f82b, 0xa54ff53a5f1d36f1, 0x510e527fade682d1, 0x9b05688c2b3e6c1f, 0x1f83d9abfb41bd6b, 0x5be0cd19137e2179]
def rr (x : BitVec 64) (n : Nat) : BitVec 64 := x.rotateLeft (64 - n)
def sg0 (a : BitVec 64) : BitVec 64 := rr a 1 ^^^ rr a 8 ^^^ (a >>> 7)
def sg1 (b : BitVec 64) : BitVec 64 := rr b 19 ^^^ rr b 61 ^^^ (b >>> 6)
def bs1 (e : BitVec 64) : BitVec 64 := rr e 14 ^^^ rr e 18 ^^^ rr e 41
def bs0 (a : BitVec 64) : BitVec 64 := rr a 28 ^^^ rr a 34 ^^^ rr a 39
def chs (e f g : BitVec 64) : BitVec 64 := g ^^^ (e &&& (f ^^^ g))
def mjs (a b c : BitVec 64) : BitVec 64 := (a &&& b) ||| (c &&& (a ||| b))
def stepV (v : List (BitVec 64)) (k x : BitVec 64) : List (BitVec 64) :=
  let one := nb v 7 + bs1 (nb v 4) + chs (nb v 4) (nb v 5) (nb v 6) + k + x
  let two := bs0 (nb v 0) + mjs (nb v 0) (nb v 1) (nb v 2)
  [one + two, nb v 0, nb v 1, nb v 2, nb v 3 + one, nb v 4, nb v 5, nb v 6]
def w16 (n : Nat) (ys : List (BitVec 8)) : Nat → List (BitVec 64)
  | 0 => List.replicate n 0
  | i + 1 => (w16 n ys i).set (i / 8) (((nb (w16 n ys i) (i / 8)) <<< 8) ||| (ny ys i).setWidth 64)
theorem w16_len (n : Nat) (ys : List (BitVec 8)) (i : Nat) : (w16 n ys i).length = n := by induction i <;> simp [w16, *]
def wf (b : List (BitVec 64)) (t : Nat) : BitVec 64 :=
  if h : t < 16 then nb b t else sg1 (wf b (t - 2)) + wf b (t - 7) + sg0 (wf b (t - 15)) + wf b (t - 16)
  termination_by t
  decreasing_by all_goals omega
theorem wf_lt (b : List (BitVec 64)) (t : Nat) (h : t < 16) : wf b t = nb b t := by rw [wf, dif_pos h]
theorem wf_ge (b : List (BitVec 64)) (t : Nat) (h : 16 ≤ t) : wf b t = sg1 (wf b (t - 2)) + wf b (t - 7) + sg0 (wf b (t - 15)) + wf b (t - 16) := by rw [wf, dif_neg (by omega)]
def vGo (b s : List (BitVec 64)) : Nat → List (BitVec 64)
  | 0 => s
  | t + 1 => stepV (vGo b s t) (nb shaK t) (wf b t)
theorem vGo_len (b s : List (BitVec 64)) (hs : s.length = 8) (t : Nat) : (vGo b s t).length = 8 := by
  cases t with
  | zero => exact hs
  | succ t => rfl
def addGo (v s : List (BitVec 64)) : Nat → List (BitVec 64)
  | 0 => s
  | i + 1 => (addGo v s i).set i (nb (addGo v s i) i + nb v i)
theorem addGo_len (v s : List (BitVec 64)) (i : Nat) : (addGo v s i).length = s.length := by induction i <;> simp [addGo, *]
def blockL (s : List (BitVec 64)) (ys : List (BitVec 8)) : List (BitVec 64) := addGo (vGo (w16 16 ys 128) s 80) s 8
theorem blockL_len (s : List (BitVec 64)) (ys : List (BitVec 8)) : (blockL s ys).length = s.length := addGo_len _ _ _
def cw (b : List (BitVec 64)) : Nat → List (BitVec 64)
  | 0 => b
  | t + 1 => if 16 ≤ t then (cw b t).set (t % 16) (nb (cw b t) (t % 16) + (nb (cw b t) ((t + 9) % 16) + sg0 (nb (cw b t) ((t + 1) % 16)) + sg1 (nb (cw b t) ((t + 14) % 16)))) else cw b t
theorem cw_len (b : List (BitVec 64)) (t : Nat) : (cw b t).length = b.length := by
  induction t with
  | zero => rfl
  | succ t ih => unfold cw; split <;> simp [ih]
theorem nb_set (xs : List (BitVec 64)) (i j : Nat) (x : BitVec 64) (h : i < xs.length) : nb (xs.set i x) j = if i = j then x else nb xs j := by
  unfold nb
  simp only [List.getD_eq_getElem?_getD, List.getElem?_set]
  split <;> simp_all
theorem cw_early (b : List (BitVec 64)) (t : Nat) (h : t ≤ 16) : cw b t = b := by
  induction t with
  | zero => rfl
  | succ t ih => unfold cw; rw [if_neg (by omega)]; exact ih (by omega)
theorem cw_spec (b : List (BitVec 64)) (hb : b.length = 16) (t : Nat) : ∀ s, s < max t 16 → max t 16 ≤ s + 16 → nb (cw b t) (s % 16) = wf b s := by
  induction t with
  | zero =>
    intro s h1 h2
    have : s < 16 := by omega
    rw [wf_lt b s this, Nat.mod_eq_of_lt this]; rfl
  | succ t ih =>
    intro s h1 h2
    unfold cw
    split
    · rename_i h16
      rw [nb_set _ _ _ _ (by rw [cw_len, hb]; omega)]
      have e1 := ih (t - 16) (by omega) (by omega)
      have e2 := ih (t - 7) (by omega) (by omega)
      have e3 := ih (t - 15) (by omega) (by omega)
      have e4 := ih (t - 2) (by omega) (by omega)
      rw [show (t - 16) % 16 = t % 16 from by omega] at e1
      rw [show (t - 7) % 16 = (t + 9) % 16 from by omega] at e2
      rw [show (t - 15) % 16 = (t + 1) % 16 from by omega] at e3
      rw [show (t - 2) % 16 = (t + 14) % 16 from by omega] at e4
      rw [e1, e2, e3, e4]
      by_cases hst : s = t
      · subst hst
        rw [if_pos rfl, wf_ge b s h16]
        ac_rfl
      · rw [if_neg (by omega)]
        exact ih s (by omega) (by omega)
    · exact ih s (by omega) (by omega)
theorem cw_word (b : List (BitVec 64)) (hb : b.length = 16) (t : Nat) : nb (cw b (t + 1)) (t % 16) = wf b t := by
  by_cases h : t < 16
  · rw [cw_early b (t + 1) (by omega), wf_lt b t h, Nat.mod_eq_of_lt h]
  · exact cw_spec b hb (t + 1) t (by omega) (by omega)
def w80 (b : List (BitVec 64)) : Nat → List (BitVec 64)
  | 0 => b
  | t + 1 => (w80 b t).set (16 + t) (sg1 (nb (w80 b t) (16 + t - 2)) + nb (w80 b t) (16 + t - 7) + sg0 (nb (w80 b t) (16 + t - 15)) + nb (w80 b t) (16 + t - 16))
theorem w80_len (b : List (BitVec 64)) (t : Nat) : (w80 b t).length = b.length := by induction t <;> simp [w80, *]
theorem w80_spec (b c : List (BitVec 64)) (hb : b.length = 80) (h : ∀ j, j < 16 → nb b j = nb c j) (t : Nat) (ht : t ≤ 64) : ∀ s, s < 16 + t → nb (w80 b t) s = wf c s := by
  induction t with
  | zero => intro s hs; rw [wf_lt c s (by omega)]; exact h s (by omega)
  | succ t ih =>
    intro s hs
    have ih := ih (by omega)
    unfold w80
    rw [nb_set _ _ _ _ (by rw [w80_len, hb]; omega)]
    by_cases hst : s = 16 + t
    · subst hst
      rw [if_pos rfl, ih _ (by omega), ih _ (by omega), ih _ (by omega), ih _ (by omega), wf_ge c (16 + t) (by omega)]
    · rw [if_neg (by omega)]
      exact ih s (by omega)
theorem nb_zero (n j : Nat) : nb (List.replicate n 0) j = 0 := by
  unfold nb
  rw [List.getD_eq_getElem?_getD, List.getElem?_replicate]
  split <;> rfl
theorem w16_more (ys : List (BitVec 8)) (i : Nat) (hi : i ≤ 128) : ∀ j, j < 16 → nb (w16 80 ys i) j = nb (w16 16 ys i) j := by
  induction i with
  | zero =>
    intro j hj
    show nb (List.replicate 80 0) j = nb (List.replicate 16 0) j
    rw [nb_zero, nb_zero]
  | succ i ih =>
    intro j hj
    unfold w16
    rw [nb_set _ _ _ _ (by rw [w16_len]; omega), nb_set _ _ _ _ (by rw [w16_len]; omega), ih (by omega) _ (by omega)]
    split
    · rfl
    · exact ih (by omega) j hj
theorem w80_word (ys : List (BitVec 8)) (t : Nat) (ht : t < 80) : nb (w80 (w16 80 ys 128) 64) t = wf (w16 16 ys 128) t :=
  w80_spec _ _ (w16_len _ _ _) (w16_more ys 128 (by omega)) 64 (by omega) t (by omega)
def chunkS (m : List (BitVec 8)) (k : Nat) : List (BitVec 8) := (m.drop (128 * k)).take 128
def absS (s : List (BitVec 64)) (m : List (BitVec 8)) : Nat → List (BitVec 64)
  | 0 => s
  | k + 1 => blockL (absS s m k) (chunkS m k)
theorem absS_len (s : List (BitVec 64)) (m : List (BitVec 8)) (k : Nat) : (absS s m k).length = s.length := by induction k <;> simp [absS, blockL_len, *]
def lenY (n : Nat) : List (BitVec 8) := (List.range 16).map fun i => BitVec.ofNat 8 (8 * n / 2 ^ (8 * (15 - i)))
def padZ (n : Nat) : Nat := (239 - n % 128) % 128
def tailS (n : Nat) : List (BitVec 8) := 128#8 :: (List.replicate (padZ n) 0 ++ lenY n)
def outS (s : List (BitVec 64)) : Nat → List (BitVec 8)
  | 0 => List.replicate 64 0
  | i + 1 => (outS s i).set i ((nb s (i / 8) >>> (56 - 8 * (i % 8))).setWidth 8)
theorem outS_len (s : List (BitVec 64)) (i : Nat) : (outS s i).length = 64 := by induction i <;> simp [outS, *]
def padS (m : List (BitVec 8)) : List (BitVec 8) := m ++ tailS m.length
def shaL (m : List (BitVec 8)) : List (BitVec 8) := outS (absS shaH (padS m) ((padS m).length / 128)) 64
theorem shaL_len (m : List (BitVec 8)) : (shaL m).length = 64 := outS_len _ _
end Go.Proofs.YtejnnghfelpioaaGreat
namespace Go.Proofs.YtejnnghfelpioaaGreat
open Go.RowKit
def nn (xs : List Nat) (j : Nat) : Nat := xs.getD j 0
def cellsN (xs : List Nat) : Array Value := (xs.map fun x : Nat => Value.int .i64 (x : Int)).toArray
def ArrN (t : TypeId) (w : World) (b : Nat) (xs : List Nat) : Prop := w.heap[b]? = some (.cells (cellsN xs) t (0, 0))
theorem ArrN.cell {t : TypeId} {w : World} {b : Nat} {xs : List Nat} (h : ArrN t w b xs) (j : Nat) (hj : j < xs.length) : w.cell? ⟨b, j, none⟩ = some (.int .i64 ((nn xs j : Nat) : Int)) := by
  unfold ArrN at h
  simp [World.cell?, h, cellsN, nn, hj]
theorem ArrN.free {t : TypeId} {w : World} {b : Nat} {xs : List Nat} (h : ArrN t w b xs) (j : Nat) : w.frozen? ⟨b, j, none⟩ = false := by
  unfold ArrN at h
  simp [World.frozen?, h]
theorem ArrN.lt {t : TypeId} {w : World} {b : Nat} {xs : List Nat} (h : ArrN t w b xs) : b < w.heap.size := by
  unfold ArrN at h
  exact (Array.getElem?_eq_some_iff.1 h).1
theorem ArrN.set {t : TypeId} {w : World} {b : Nat} {xs : List Nat} (h : ArrN t w b xs) (j : Nat) (x : Nat) : ArrN t (w.setCell ⟨b, j, none⟩ (.int .i64 (x : Int))) b (xs.set j x) := by
  unfold ArrN at *
  simp [World.setCell, Array.getElem?_modify, h, cellsN, List.map_set]
theorem ArrN.other {t : TypeId} {w : World} {b : Nat} {xs : List Nat} (h : ArrN t w b xs) {a : Addr} (ha : b ≠ a.block) (v : Value) : ArrN t (w.setCell a v) b xs := by
  unfold ArrN at *
  rw [Below.heap_setCell _ _ _ _ ha]; exact h
theorem ArrN.below {t : TypeId} {w w' : World} {b B : Nat} {xs : List Nat} (h : ArrN t w b xs) (hb : Below B w w') (hB : b < B) : ArrN t w' b xs := by
  unfold ArrN at *
  rw [hb.block b hB]; exact h
theorem ArrN.alloc {t : TypeId} {w : World} {b : Nat} {xs : List Nat} (h : ArrN t w b xs) (o : Obj) : ArrN t (w.alloc o) b xs := by
  unfold ArrN at *
  rw [Below.heap_alloc _ _ _ (ArrN.lt h)]; exact h
theorem ArrN.drew {t : TypeId} {w : World} {b : Nat} {xs : List Nat} (h : ArrN t w b xs) : ArrN t w.drew b xs := h
theorem ArrN.ext {t : TypeId} {w : World} {b : Nat} {xs : List Nat} (h : ArrN t w b xs) (x : World) : ArrN t (w.ext x) b xs := h.below (w.ext_below x) h.lt
theorem ArrN.new (t : TypeId) (w : World) (xs : List Nat) : ArrN t (w.alloc (.cells (cellsN xs) t)) w.heap.size xs := by
  unfold ArrN
  show (w.heap.push _)[w.heap.size]? = _
  simp
theorem ArrB.all {t : TypeId} {w : World} {b : Nat} {xs : List (BitVec 64)} {n : Nat} (h : ArrB t w b xs) (hn : xs.length = n) : ∀ j, j < n → w.cell? ⟨b, j, none⟩ = some (.int .u64 (iv (nb xs j))) := fun j hj => h.cell j (by omega)
theorem ArrN.all {t : TypeId} {w : World} {b : Nat} {xs : List Nat} {n : Nat} (h : ArrN t w b xs) (hn : xs.length = n) : ∀ j, j < n → w.cell? ⟨b, j, none⟩ = some (.int .i64 ((nn xs j : Nat) : Int)) := fun j hj => h.cell j (by omega)
theorem heap_setRow (w : World) (g : Nat) (cs old : Array Value) (t : TypeId) (h : w.heap[g]? = some (.cells old t (0, 0))) : (w.setRow g cs).heap[g]? = some (.cells cs t (0, 0)) := by
  simp [World.setRow, Array.getElem?_modify, h]
theorem below_setRow {B : Nat} {a w : World} (h : Below B a w) (g : Nat) (hg : B ≤ g) (cs : Array Value) : Below B a (w.setRow g cs) :=
  h.trans ⟨rfl, rfl, rfl, by simp [World.setRow], fun k hk => by
    simp only [World.setRow, Array.getElem?_modify]
    rw [if_neg (by omega)]⟩
end Go.Proofs.YtejnnghfelpioaaGreat
