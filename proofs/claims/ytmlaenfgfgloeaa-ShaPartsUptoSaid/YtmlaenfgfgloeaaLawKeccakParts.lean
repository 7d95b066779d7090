import Derived.Test.YtmlaenfgfgloeaaKecT
import Derived.Test.YtmlaenfgfgloeaaFrameU
import Derived.Test.YtmlaenfgfgloeaaLawKeccakSums
/-! KeccakParts. -/
set_option linter.unusedVariables false
set_option linter.unusedSimpArgs false
namespace Go.Proofs.Ytmlaenfgfgloeaa
open Go.RowKit

theorem HasH.kept {lo : Nat} {w w' : World} {hb : Nat} {s : List (BitVec 64)} {rest : List (BitVec 8)} {row : Option Nat} (h : HasH lo w hb s rest) (hg : w.grownBy w' row) (hne : ∀ k, row = some k → k ≠ hb ∧ k < lo) : HasH 0 w' hb s rest := by
  obtain ⟨v, h1, h2, h3⟩ := h
  have hbl := (Array.getElem?_eq_some_iff.1 h1).1
  refine ⟨v, (hg.block hb hbl (fun e => (hne hb e.symm).1 rfl)).trans h1, ?_, fun _ _ _ _ _ _ => Nat.zero_le _⟩
  obtain ⟨a, cap, e, hc, h4⟩ := h2
  refine ⟨a, cap, e, hc, fun hx => ?_⟩
  obtain ⟨b, off, rfl, h5, h6⟩ := h4 hx
  have hlo := h3 hx b off _ _ e
  refine ⟨b, off, rfl, Nat.lt_of_lt_of_le h5 hg.size, fun j hj => ?_⟩
  rw [← h6 j hj]
  unfold World.cell?
  rw [hg.block b h5 (fun e => by have := (hne b e.symm).2; omega)]
theorem RdYY.below {w w' : World} {v : Value} {yss : List (List (BitVec 8))} (h : RdYY w v yss) (hb : Below w.heap.size w w') : RdYY w' v yss := by
  obtain ⟨a, cap, e, hc, h⟩ := h
  refine ⟨a, cap, e, hc, fun hx => ?_⟩
  obtain ⟨b, off, e2, h2, h3⟩ := h hx
  refine ⟨b, off, e2, Nat.lt_of_lt_of_le h2 hb.size, fun i hi => ?_⟩
  obtain ⟨u, h4, h5⟩ := h3 i hi
  exact ⟨u, by rw [hb.cell (p := ⟨b, off + i, none⟩) h2]; exact h4, h5.below hb⟩
theorem eq_zero32 (w : World) : (Op.equalIn 10000 29 (.agg (cellsY zero32)) (.agg #[.int .u8 0, .int .u8 0, .int .u8 0, .int .u8 0, .int .u8 0, .int .u8 0, .int .u8 0, .int .u8 0, .int .u8 0, .int .u8 0, .int .u8 0, .int .u8 0, .int .u8 0, .int .u8 0, .int .u8 0, .int .u8 0, .int .u8 0, .int .u8 0, .int .u8 0, .int .u8 0, .int .u8 0, .int .u8 0, .int .u8 0, .int .u8 0, .int .u8 0, .int .u8 0, .int .u8 0, .int .u8 0, .int .u8 0, .int .u8 0, .int .u8 0, .int .u8 0])).run Try.prog w = .ok true w := eq_same32 zero32 (by simp [zero32]) w
/-- What has come behind k parts. -/
def cameL (yss : List (List (BitVec 8))) (k : Nat) : List (BitVec 8) := (yss.take k).flatten
theorem start_nil (yss : List (List (BitVec 8))) : stateL (cameL yss 0) = zero25 := by simp [cameL, stateL, absN]
theorem start_rest (yss : List (List (BitVec 8))) : restL (cameL yss 0) = [] := by simp [cameL, restL]
theorem cameL_succ (yss : List (List (BitVec 8))) (k : Nat) (h : k < yss.length) : cameL yss (k + 1) = cameL yss k ++ yss.getD k [] := by
  unfold cameL
  rw [List.take_succ_eq_append_getElem h, List.flatten_append]
  congr 1
  simp [List.getD_eq_getElem?_getD, h]
theorem cameL_le (yss : List (List (BitVec 8))) (k : Nat) : (cameL yss k).length ≤ yss.flatten.length := by
  unfold cameL
  conv => rhs; rw [← List.take_append_drop k yss, List.flatten_append, List.length_append]
  omega

set_option maxRecDepth 20000 in
set_option maxHeartbeats 1000000 in
theorem walk_KeccakParts (w : World) (v : Value) (yss : List (List (BitVec 8))) (hr : RdYY w v yss) (hm : yss.flatten.length + yss.length + 1 ≤ 1048576) :
    Calls Try.prog 5 #[v] w fun e w' => e = .returned (.bool true) ∧ Below w.heap.size w w' := by
  obtain ⟨i0, hi0, hz0, hz1, hz2⟩ := info_parts infoY
  have HR := hid hr
  obtain ⟨a, cap, rfl, hcap, hel⟩ := hr
  have HE := hid hel
  clear hel
  go_enter Try.func5, Try.ntmps5
  go_wp2_with fail
  refine (new_any _).mono ?_
  rintro e w1 ⟨rfl, hH1', hb1⟩
  have hH1 := hid hH1'
  clear hH1'
  have hz0' : w.heap.size + 1 ≤ w1.heap.size := by
    obtain ⟨_, h, _⟩ := hH1.out
    have := (Array.getElem?_eq_some_iff.1 h).1
    omega
  go_wp2_with fail
  refine (Calls.asExt (kalive_any _)).mono ?_
  rintro _ _ ⟨rfl, xw, rfl⟩
  have hH2 := hid (hH1.out.kept (row := none) (show w1.grownBy (w1.ext xw) none from ⟨(w1.ext_below xw).os, (w1.ext_below xw).tape, (w1.ext_below xw).output, (w1.ext_below xw).size, fun k hk _ => (w1.ext_below xw).block k hk⟩) (by simp))
  have hb2 : Below w.heap.size w (w1.ext xw) := World.ext_below_of hb1 hb1.size xw
  have hz2' : w.heap.size + 1 ≤ (w1.ext xw).heap.size := Nat.le_trans hz0' (w1.size_ext xw)
  generalize w1.ext xw = w2 at hH2 hb2 hz2' ⊢
  clear hH1 hb1 hz0'
  go_wp2
  go_loopw [5, 4] (fun iv av wr => ∃ k : Nat, k ≤ yss.length ∧ iv = .int .i64 k ∧ Hid (HasH 0 wr w.heap.size (stateL (cameL yss k)) (restL (cameL yss k))) ∧ Hid (wr.ownsRow (w.heap.size + 1) 5 1 av (cameL yss k).length (bytesV (cameL yss k))) ∧ Below w.heap.size w wr ∧ w.heap.size + 1 ≤ wr.heap.size)
    (fun iv _ _ => yss.length - (intOf iv).toNat)
  case atStart => exact ⟨0, by omega, rfl, hid (by rw [start_nil, start_rest]; exact hH2.out), hid (World.ownsRow_nil _ _ _ _), hb2, hz2'⟩
  case round =>
    clear hH2 hb2 hz2'
    obtain ⟨k, hk, rfl, hH, hO, hb, hz⟩ := hrel
    by_cases hlt : k < yss.length
    · obtain ⟨b, off, rfl, hbl, hel⟩ := HE.out (by intro e; subst e; simp at hlt)
      obtain ⟨u, hcu, hru⟩ := hel k hlt
      have hcs := hid (cameL_succ yss k hlt)
      have hle := cameL_le yss (k + 1)
      rw [hcs.out, List.length_append] at hle
      obtain ⟨ys, hys⟩ : ∃ ys, ys = yss.getD k [] := ⟨_, rfl⟩
      rw [← hys] at hru hcs hle
      clear hys
      obtain ⟨ua, uc, hue, huc, _⟩ := id hru
      subst hue
      have c1 : wr.cell? ⟨b, off + k, none⟩ = some (Value.slice ua ys.length uc) := (hb.cell (p := ⟨b, off + k, none⟩) hbl).trans hcu
      have hrw := hid (hru.below hb)
      clear hel hcu
      go_wp2_with fail
      have hrl := restL_len (cameL yss k)
      refine (write_any w.heap.size _ _ ys _ wr (stateL_len _) hH.out hrw.out (by omega)).mono ?_
      rintro e w3 ⟨rfl, hH3, hg3⟩
      rw [state_app, rest_app, ← hcs.out] at hH3
      have HH3 := hid hH3
      have hlt2 := hO.out.lt
      have hO3 := hid (World.ownsRow.kept hO.out hg3 (.inr (fun e => by have := (hlt2 _ e).1; omega)))
      have hb3 : Below w.heap.size w w3 := hb.grown hg3 hb.size (fun k e => by simp at e; omega)
      have hz3 : w.heap.size + 1 ≤ w3.heap.size := Nat.le_trans hz hg3.size
      have c3 : w3.cell? ⟨b, off + k, none⟩ = some (Value.slice ua ys.length uc) := (hb3.cell (p := ⟨b, off + k, none⟩) hbl).trans (by rw [← hb.cell (p := ⟨b, off + k, none⟩) hbl]; exact c1)
      have hrw3 := hid (hru.below hb3)
      clear hH3 hH hb hz hrw hru c1
      go_wp2_with (at_builtin; refine wpList_append_any rfl (.tmp 26) (.tmp 30) 27 rfl (w.heap.size + 1) 5 i0 _ 1 1 uSY hi0 hz0 hz1 hz2 rfl (by decide) _ _ rfl rfl (cameL yss k).length (bytesV (cameL yss k)) hO3.out ys.length (bytesV ys) (RdY.toV hrw3.out) (by unfold maxLen; omega) (by omega) hz3 ?_)
      intro v4 w4 ho4 hg4 _
      have H4 : Hid (w4.ownsRow (w.heap.size + 1) 5 1 v4 (cameL yss (k + 1)).length (bytesV (cameL yss (k + 1)))) := hid (by
        rw [hcs.out, List.length_append, show bytesV (cameL yss k ++ ys) = bytesV (cameL yss k) ++ bytesV ys from List.map_append]; exact ho4)
      have HH4 := hid (HH3.out.kept hg4 (fun k' e => by have := hlt2 k' e; omega))
      have hlt3 := hO3.out.lt
      have hb4 : Below w.heap.size w w4 := hb3.grown hg4 hb3.size (fun k' e => by have := (hlt3 k' e).1; omega)
      have hz4 : w.heap.size + 1 ≤ w4.heap.size := Nat.le_trans hz3 hg4.size
      have hml : (cameL yss (k + 1)).length ≤ 1048576 := by rw [hcs.out, List.length_append]; omega
      clear ho4 hg4 HH3 hO3 hb3 hz3 c3 hrw3 hO hg3 hlt2 hlt3 hle hcs
      obtain ⟨m1, hm1⟩ : ∃ m1, m1 = cameL yss (k + 1) := ⟨_, rfl⟩
      rw [← hm1] at H4 HH4 hml
      have HM1 := hid hm1
      clear hm1
      go_wp2_with fail
      refine (hsum_any w.heap.size _ _ w4 (stateL_len _) HH4.out (restL_len _)).mono ?_
      rintro e w5 ⟨rfl, hb5⟩
      rw [sumL_def]
      have hR5 := hid ((RdY.owned H4.out).below hb5)
      go_wp2_with fail
      refine (refSum_any m1 _ w5 hR5.out (by omega)).mono ?_
      rintro e w6 ⟨rfl, hb6⟩
      have hbb : Below w4.heap.size w4 w6 := hb5.trans (hb6.mono hb5.size)
      have he := eq_same32 (sumL m1) (sumL_len m1)
      generalize sumL m1 = sm at he ⊢
      have H6 := hid (World.ownsRow.kept H4.out (row := none) ⟨hbb.os, hbb.tape, hbb.output, hbb.size, fun k hk _ => hbb.block k hk⟩ (by
        by_cases e : v4.ownBlock = none
        · exact .inl e
        · exact .inr e))
      have HH6 := hid (HH4.out.kept (row := none) ⟨hbb.os, hbb.tape, hbb.output, hbb.size, fun k hk _ => hbb.block k hk⟩ (by simp))
      have hb7 := hb4.trans (hbb.mono hb4.size)
      have hz7 := Nat.le_trans hz4 hbb.size
      clear hb5 hb6 hbb hR5 H4 HH4 hb4 hz4
      go_wp2
      go_roundw
      case rel => exact ⟨k + 1, by omega, by go_num, hid (by rw [← HM1.out]; exact HH6.out), hid (by rw [← HM1.out]; exact H6.out), hb7, hz7⟩
      case measure => simp [intOf]; omega
    · obtain rfl : k = yss.length := by omega
      obtain ⟨m1, hm1⟩ : ∃ m1, m1 = cameL yss yss.length := ⟨_, rfl⟩
      have hml := cameL_le yss yss.length
      rw [← hm1] at hO hH hml
      clear hm1 hlt hk
      go_wp2_with fail
      refine (Calls.asExt (wnil_any _ _)).mono ?_
      rintro _ _ ⟨rfl, xw, rfl⟩
      have hbx := wr.ext_below xw
      have hO1 := hid (World.ownsRow.kept hO.out (row := none) ⟨hbx.os, hbx.tape, hbx.output, hbx.size, fun k hk _ => hbx.block k hk⟩ (by
        by_cases e : u4.ownBlock = none
        · exact .inl e
        · exact .inr e))
      have hH1 := hid (hH.out.kept (row := none) ⟨hbx.os, hbx.tape, hbx.output, hbx.size, fun k hk _ => hbx.block k hk⟩ (by simp))
      have hb1 : Below w.heap.size w (wr.ext xw) := hb.trans (hbx.mono hb.size)
      generalize wr.ext xw = w2 at hO1 hH1 hb1 ⊢
      clear hbx hO hH hb hz
      go_wp2_with fail
      refine (hsum_any w.heap.size _ _ w2 (stateL_len _) hH1.out (restL_len _)).mono ?_
      rintro e w5 ⟨rfl, hb5⟩
      rw [sumL_def]
      have hR5 := hid ((RdY.owned hO1.out).below hb5)
      go_wp2_with fail
      refine (sum_any m1 _ w5 hR5.out (by omega)).mono ?_
      rintro e w6 ⟨rfl, hb6⟩
      have hb7 := hb1.trans ((hb5.trans (hb6.mono hb5.size)).mono hb1.size)
      have he := eq_same32 (sumL m1) (sumL_len m1)
      generalize sumL m1 = sm at he ⊢
      have hez := eq_zero32
      clear hb5 hb6 hR5 hO1 hH1 hb1
      go_wp2_with (go_at_call 17; (with_reducible refine (Calls.asExt (hnil_any _)).mono ?_); rintro _ _ ⟨rfl, _, rfl⟩)
      go_ret
      exact ⟨rfl, World.ext_below_of hb7 hb7.size _⟩
end Go.Proofs.Ytmlaenfgfgloeaa
