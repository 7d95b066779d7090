import Derived.Test.YtmlaenfgfgloeaaFrameU
import Derived.Test.YtmlaenfgfgloeaaLawShaSums
import Derived.Test.YtmlaenfgfgloeaaLawKeccakParts
/-! ShaParts. -/
set_option linter.unusedVariables false
set_option linter.unusedSimpArgs false
namespace Go.Proofs.Ytmlaenfgfgloeaa
open Go.RowKit

theorem AtS.grown {w w' : World} {hb : Nat} {s : List (BitVec 64)} {T : List (BitVec 8)} {p : Nat} {a : BitVec 64} {row : Option Nat} (h : AtS w hb s T p a) (hg : w.grownBy w' row) (hr : some hb ≠ row) : AtS w' hb s T p a := by
  obtain ⟨y, h1, h2, h3⟩ := h
  exact ⟨y, h1, h2.grown hg hr, h3⟩
theorem AtS.below {w w' : World} {hb : Nat} {s : List (BitVec 64)} {T : List (BitVec 8)} {p : Nat} {a : BitVec 64} (h : AtS w hb s T p a) (hg : Below w.heap.size w w') : AtS w' hb s T p a :=
  h.grown (row := none) ⟨hg.os, hg.tape, hg.output, hg.size, fun k hk _ => hg.block k hk⟩ (by simp)
theorem AtS.lt {w : World} {hb : Nat} {s : List (BitVec 64)} {T : List (BitVec 8)} {p : Nat} {a : BitVec 64} (h : AtS w hb s T p a) : hb < w.heap.size := by
  obtain ⟨y, _, h2, _⟩ := h; exact h2.lt
theorem ofNat_more (a b : Nat) : BitVec.ofNat 64 a + BitVec.ofNat 64 (a + b - a) = BitVec.ofNat 64 (a + b) := by
  rw [Nat.add_sub_cancel_left, BitVec.ofNat_add]
theorem eq_zero64 (w : World) : (Op.equalIn 10000 38 (.agg (cellsY (zY 64))) (.agg #[.int .u8 0, .int .u8 0, .int .u8 0, .int .u8 0, .int .u8 0, .int .u8 0, .int .u8 0, .int .u8 0, .int .u8 0, .int .u8 0, .int .u8 0, .int .u8 0, .int .u8 0, .int .u8 0, .int .u8 0, .int .u8 0, .int .u8 0, .int .u8 0, .int .u8 0, .int .u8 0, .int .u8 0, .int .u8 0, .int .u8 0, .int .u8 0, .int .u8 0, .int .u8 0, .int .u8 0, .int .u8 0, .int .u8 0, .int .u8 0, .int .u8 0, .int .u8 0, .int .u8 0, .int .u8 0, .int .u8 0, .int .u8 0, .int .u8 0, .int .u8 0, .int .u8 0, .int .u8 0, .int .u8 0, .int .u8 0, .int .u8 0, .int .u8 0, .int .u8 0, .int .u8 0, .int .u8 0, .int .u8 0, .int .u8 0, .int .u8 0, .int .u8 0, .int .u8 0, .int .u8 0, .int .u8 0, .int .u8 0, .int .u8 0, .int .u8 0, .int .u8 0, .int .u8 0, .int .u8 0, .int .u8 0, .int .u8 0, .int .u8 0, .int .u8 0])).run Try.prog w = .ok true w := eq_same64 (zY 64) (zY_len 64) w

set_option maxRecDepth 20000 in
set_option maxHeartbeats 1000000 in
theorem walk_ShaParts (w : World) (v : Value) (yss : List (List (BitVec 8))) (hr : RdYY w v yss) (hm : yss.flatten.length + yss.length + 1 ≤ 1048576) :
    Calls Try.prog 8 #[v] w fun e w' => e = .returned (.bool true) ∧ Below w.heap.size w w' := by
  obtain ⟨i0, hi0, hz0, hz1, hz2⟩ := info_parts infoY
  have HR := hid hr
  obtain ⟨a, cap, rfl, hcap, hel⟩ := hr
  have HE := hid hel
  clear hel
  go_enter Try.func8, Try.ntmps8
  go_wp2_with fail
  refine (snew_any _).mono ?_
  rintro e w1 ⟨hb, rfl, hbs, hH1', hb1⟩
  have hH1 := hid hH1'
  clear hH1'
  go_wp2_with fail
  refine (Calls.asExt (salive_any _)).mono ?_
  rintro _ _ ⟨rfl, xw, rfl⟩
  have hlt1 := hH1.out.lt
  have hH2 := hid (AtS.zero (hH1.out.below (w1.ext_below xw) hlt1) (cameL yss 0))
  have hb2 : Below w.heap.size w (w1.ext xw) := World.ext_below_of hb1 hb1.size xw
  have hz2' : hb < (w1.ext xw).heap.size := Nat.lt_of_lt_of_le hlt1 (w1.size_ext xw)
  generalize w1.ext xw = w2 at hH2 hb2 hz2' ⊢
  clear hH1 hb1 hlt1
  go_wp2
  go_loopw [5, 4] (fun iv av wr => ∃ k : Nat, k ≤ yss.length ∧ iv = .int .i64 k ∧ Hid (AtS wr hb shaH (cameL yss k) (cameL yss k).length (BitVec.ofNat 64 (cameL yss k).length)) ∧ Hid (wr.ownsRow (hb + 1) 5 1 av (cameL yss k).length (bytesV (cameL yss k))) ∧ Below w.heap.size w wr)
    (fun iv _ _ => yss.length - (intOf iv).toNat)
  case atStart => exact ⟨0, by omega, rfl, hid (by
    have h := hH2.out
    rw [show (cameL yss 0) = [] from by simp [cameL]] at h ⊢
    exact h), hid (World.ownsRow_nil _ _ _ _), hb2⟩
  case round =>
    clear hH2 hb2 hz2'
    obtain ⟨k, hk, rfl, hH, hO, hbw⟩ := hrel
    have hz := hH.out.lt
    by_cases hlt : k < yss.length
    · obtain ⟨b, off, rfl, hbl, hel⟩ := HE.out (by intro e; subst e; simp at hlt)
      obtain ⟨u, hcu, hru⟩ := hel k hlt
      have hcs := hid (cameL_succ yss k hlt)
      have hle := cameL_le yss (k + 1)
      rw [hcs.out, List.length_append] at hle
      obtain ⟨ys, hys⟩ : ∃ ys, ys = yss.getD k [] := ⟨_, rfl⟩
      rw [← hys] at hru hcs hle
      clear hys
      have hrx : ∀ b off n c, u = .slice (some ⟨b, off, none⟩) n c → 0 < n → b ≠ hb := by
        obtain ⟨a, cap, rfl, hc, h⟩ := hru
        intro b off n c e h0
        simp at e
        obtain ⟨rfl, rfl, rfl⟩ := e
        obtain ⟨b', off', e2, h3, _⟩ := h (by intro e; subst e; simp at h0)
        simp at e2
        omega
      have HRX := hid hrx
      obtain ⟨ua, uc, hue, huc, _⟩ := id hru
      subst hue
      have c1 : wr.cell? ⟨b, off + k, none⟩ = some (Value.slice ua ys.length uc) := (hbw.cell (p := ⟨b, off + k, none⟩) hbl).trans hcu
      have hrw := hid (hru.below hbw)
      clear hel hcu hrx
      obtain ⟨T, hT⟩ : ∃ T, T = cameL yss k := ⟨_, rfl⟩
      rw [← hT] at hH hO hle hcs
      clear hT
      go_wp2_with fail
      refine (swrite_any hb shaH (T ++ ys) T.length _ _ wr rfl (by simp) (hH.out.more ys) (by rw [List.drop_left]; exact RdX.of hrw.out HRX.out) (by simp; omega)).mono ?_
      rintro e w3 ⟨rfl, hH3, hg3⟩
      rw [List.length_append, ofNat_more] at hH3
      have HH3 := hid hH3
      have hlt2 := hO.out.lt
      have hO3 := hid (World.ownsRow.kept hO.out hg3 (.inr (fun e => by have := (hlt2 _ e).1; omega)))
      have hb3 : Below w.heap.size w w3 := hbw.grown hg3 hbw.size (fun k e => by simp at e; omega)
      have hz3 : hb + 1 ≤ w3.heap.size := Nat.le_trans hz hg3.size
      have c3 : w3.cell? ⟨b, off + k, none⟩ = some (Value.slice ua ys.length uc) := (hb3.cell (p := ⟨b, off + k, none⟩) hbl).trans (by rw [← hbw.cell (p := ⟨b, off + k, none⟩) hbl]; exact c1)
      have hrw3 := hid (hru.below hb3)
      clear hH3 hH hbw hz hrw hru c1
      go_wp2_with (at_builtin; refine wpList_append_any rfl (.tmp 26) (.tmp 30) 27 rfl (hb + 1) 5 i0 _ 1 1 uSY hi0 hz0 hz1 hz2 rfl (by decide) _ _ rfl rfl T.length (bytesV T) hO3.out ys.length (bytesV ys) (RdY.toV hrw3.out) (by unfold maxLen; omega) (by omega) hz3 ?_)
      intro v4 w4 ho4 hg4 _
      have hcs2 : (cameL yss (k + 1)).length = T.length + ys.length := by rw [hcs.out, List.length_append]
      have H4 : Hid (w4.ownsRow (hb + 1) 5 1 v4 (cameL yss (k + 1)).length (bytesV (cameL yss (k + 1)))) := hid (by
        rw [hcs.out, List.length_append, show bytesV (T ++ ys) = bytesV T ++ bytesV ys from List.map_append]; exact ho4)
      have hlt3 := hO3.out.lt
      have HH4 := hid (show AtS w4 hb shaH (cameL yss (k + 1)) (cameL yss (k + 1)).length (BitVec.ofNat 64 (cameL yss (k + 1)).length) by
        rw [hcs2, hcs.out]
        exact HH3.out.grown hg4 (fun e => by have := (hlt3 hb e.symm).1; omega))
      have hb4 : Below w.heap.size w w4 := hb3.grown hg4 hb3.size (fun k' e => by have := (hlt3 k' e).1; omega)
      have hml : (cameL yss (k + 1)).length ≤ 1048576 := by rw [hcs2]; omega
      clear ho4 hg4 HH3 hO3 hb3 hz3 c3 hrw3 hO hg3 hlt2 hlt3 hle hcs hcs2
      obtain ⟨m1, hm1⟩ : ∃ m1, m1 = cameL yss (k + 1) := ⟨_, rfl⟩
      rw [← hm1] at H4 HH4 hml
      have HM1 := hid hm1
      clear hm1
      go_wp2_with fail
      refine (shsum_any hb shaH m1 w4 rfl HH4.out (by omega)).mono ?_
      rintro e w5 ⟨rfl, hb5⟩
      rw [shaL_def]
      have hR5 := hid ((RdY.owned H4.out).below hb5)
      go_wp2_with fail
      refine (rsum_any m1 _ w5 hR5.out (by omega)).mono ?_
      rintro e w6 ⟨rfl, hb6⟩
      have hbb : Below w4.heap.size w4 w6 := hb5.trans (hb6.mono hb5.size)
      have he := eq_same64 (shaL m1) (shaL_len m1)
      generalize shaL m1 = sm at he ⊢
      have H6 := hid (World.ownsRow.kept H4.out (row := none) ⟨hbb.os, hbb.tape, hbb.output, hbb.size, fun k hk _ => hbb.block k hk⟩ (by
        by_cases e : v4.ownBlock = none
        · exact .inl e
        · exact .inr e))
      have HH6 := hid (HH4.out.below hbb)
      have hb7 := hb4.trans (hbb.mono hb4.size)
      clear hb5 hb6 hbb hR5 H4 HH4 hb4
      go_wp2
      go_roundw
      case rel => exact ⟨k + 1, by omega, by go_num, hid (by rw [← HM1.out]; exact HH6.out), hid (by rw [← HM1.out]; exact H6.out), hb7⟩
      case measure => simp [intOf]; omega
    · obtain rfl : k = yss.length := by omega
      obtain ⟨m1, hm1⟩ : ∃ m1, m1 = cameL yss yss.length := ⟨_, rfl⟩
      have hml := cameL_le yss yss.length
      rw [← hm1] at hO hH hml
      clear hm1 hlt hk
      go_wp2_with fail
      refine (Calls.asExt (swnil_any _ _)).mono ?_
      rintro _ _ ⟨rfl, xw, rfl⟩
      have hbx := wr.ext_below xw
      have hO1 := hid (World.ownsRow.kept hO.out (row := none) ⟨hbx.os, hbx.tape, hbx.output, hbx.size, fun k hk _ => hbx.block k hk⟩ (by
        by_cases e : u4.ownBlock = none
        · exact .inl e
        · exact .inr e))
      have hH1 := hid (hH.out.below hbx)
      have hb1 : Below w.heap.size w (wr.ext xw) := hbw.trans (hbx.mono hbw.size)
      generalize wr.ext xw = w2 at hO1 hH1 hb1 ⊢
      clear hbx hO hH hbw hz
      go_wp2_with fail
      refine (shsum_any hb shaH m1 w2 rfl hH1.out (by omega)).mono ?_
      rintro e w5 ⟨rfl, hb5⟩
      rw [shaL_def]
      have hR5 := hid ((RdY.owned hO1.out).below hb5)
      go_wp2_with fail
      refine (ssum_any m1 _ w5 hR5.out (by omega)).mono ?_
      rintro e w6 ⟨rfl, hb6⟩
      have hb7 := hb1.trans ((hb5.trans (hb6.mono hb5.size)).mono hb1.size)
      have he := eq_same64 (shaL m1) (shaL_len m1)
      generalize shaL m1 = sm at he ⊢
      have hez := eq_zero64
      clear hb5 hb6 hR5 hO1 hH1 hb1
      go_wp2_with (go_at_call 26; (with_reducible refine (Calls.asExt (shnil_any _)).mono ?_); rintro _ _ ⟨rfl, _, rfl⟩)
      go_ret
      exact ⟨rfl, World.ext_below_of hb7 hb7.size _⟩
end Go.Proofs.Ytmlaenfgfgloeaa
