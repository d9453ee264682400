/- RecChain: the walk of the law. Conditions: the bulk of what comes in. -/
import Derived.Test.YtkpopjpmjcgbfaaDecA
import Derived.Test.YtkpopjpmjcgbfaaSam
import Derived.Test.YtkpopjpmjcgbfaaBak
import Derived.Test.YtkpopjpmjcgbfaaArgR
namespace Go.Proofs.Ytkpopjpmjcgbfaa
open Go.RowKit
set_option maxRecDepth 100000
set_option linter.unusedVariables false
set_option linter.unusedSimpArgs false

def cat (R : Nat → MRec) (k : Nat) : List UInt8 := (List.range k).flatMap fun i => (R i).enc
def suf (R : Nat → MRec) (k m : Nat) : List UInt8 := ((List.range m).drop k).flatMap fun i => (R i).enc
theorem cat_succ (R : Nat → MRec) (k : Nat) : cat R (k + 1) = cat R k ++ (R k).enc := by simp [cat, List.range_succ]
theorem len_cat (R : Nat → MRec) (k : Nat) : (cat R k).length ≤ 96 * k + 24 * sumW R k := by
  induction k with
  | zero => simp [cat, sumW]
  | succ k ih =>
    have := size_wt (R k)
    rw [cat_succ, List.length_append, length_enc]
    simp only [sumW]
    omega
theorem suf_zero (R : Nat → MRec) (m : Nat) : suf R 0 m = cat R m := rfl
theorem suf_end (R : Nat → MRec) (m : Nat) : suf R m m = [] := by rw [suf, List.drop_eq_nil_of_le (by simp)]; rfl
theorem suf_step (R : Nat → MRec) (k m : Nat) (h : k < m) : suf R k m = (R k).enc ++ suf R (k + 1) m := by
  unfold suf
  rw [List.drop_eq_getElem_cons (by simpa using h)]
  simp
theorem len_suf (R : Nat → MRec) (k m : Nat) : (suf R k m).length ≤ (cat R m).length := by
  have : cat R m = ((List.range m).take k).flatMap (fun i => (R i).enc) ++ suf R k m := by
    rw [suf, ← List.flatMap_append, List.take_append_drop]; rfl
  rw [this, List.length_append]
  omega

set_option maxHeartbeats 6400000 in
theorem chain_any (R : Nat → MRec) (A : Option Addr) (n c : Nat) (short : Int) (w : World) (h : Recs w A n R) (hs : sumW R n ≤ 1048576) (hn : n ≤ 9223372036854775807) (hsh : -9223372036854775808 ≤ short ∧ short ≤ 9223372036854775807) :
    Calls Try.prog 3 #[.slice A n c, .int .i64 short] w fun e w' => e = .returned (.bool true) ∧ Below w.heap.size w w' := by
  obtain ⟨i0, hi, hz0, hz1, hz2⟩ := info_parts info5
  have H := hid h
  have hW := hid (fun k (hk : k ≤ n) => Nat.le_trans (sumW_mono R k n hk) hs)
  clear h hs
  go_enter Try.func3, Try.ntmps3
  go_upto_block 0 with fail
  go_cut [5, 6, 7] (fun v cnt i wr => ∃ m : Nat, m ≤ 20 ∧ m ≤ n ∧ cnt = .int .i64 m ∧ (∀ q, q < m → badR (R q) = false) ∧ ∃ A N c, v = .slice A N c ∧ Buf w wr A N c (cat R m))
  case first =>
    as_aux_lemma =>
      go_wp2_with fail
      go_loopw [5, 6, 7] (fun v cnt i wr => ∃ k : Nat, k ≤ 20 ∧ k ≤ n ∧ cnt = .int .i64 k ∧ i = .int .i64 k ∧ (∀ q, q < k → badR (R q) = false) ∧ ∃ A N c, v = .slice A N c ∧ Buf w wr A N c (cat R k)) (fun _ _ i _ => 20 - (intOf i).toNat)
      case atStart => exact ⟨0, by omega, by omega, rfl, rfl, fun q hq => absurd hq (by omega), none, 0, 0, rfl, by have := Buf.nil (Below.refl w.heap.size w); simpa [cat] using this⟩
      case round =>
        obtain ⟨k, hk20, hkn, rfl, rfl, hgood, A1, N1, c1, rfl, hb⟩ := hrel
        have HB := hid hb
        have Hg := hid hgood
        clear hb hgood
        by_cases hlt : k < n
        · have hlt' : (k : Int) < (n : Int) := by omega
          by_cases hlt2 : k < 20
          · have hlt2' : (k : Int) < 20 := by omega
            obtain ⟨b, o, XA, xb, XB, xa, XT, xt, XD, xd, rfl, hbl, hcs, hm⟩ := H.out k hlt
            have Hm := hid hm
            have hlen := len_cat R k
            have hlen' := hW.out k hkn
            have hsz : (R k).size ≤ 26000000 := by
              have h1 := size_wt (R k)
              have h2 := hW.out (k + 1) (by omega)
              simp only [sumW] at h2
              omega
            have hN1 : N1 ≤ 27000000 := by rw [HB.out.len]; omega
            have x0 : wr.cell? ⟨b, o + k * 11, none⟩ = some (.int .i64 (R k).kind) := (HB.out.be.cell (p := ⟨b, o + k * 11, none⟩) hbl).trans (hcs 0 (by omega))
            have x1 : wr.cell? ⟨b, o + k * 11 + 1, none⟩ = some (.int .i64 (R k).txn) := (HB.out.be.cell (p := ⟨b, o + k * 11 + 1, none⟩) hbl).trans (hcs 1 (by omega))
            have x2 : wr.cell? ⟨b, o + k * 11 + 2, none⟩ = some (.int .i64 (R k).prev) := (HB.out.be.cell (p := ⟨b, o + k * 11 + 2, none⟩) hbl).trans (hcs 2 (by omega))
            have x3 : wr.cell? ⟨b, o + k * 11 + 3, none⟩ = some (.int .i64 (R k).next) := (HB.out.be.cell (p := ⟨b, o + k * 11 + 3, none⟩) hbl).trans (hcs 3 (by omega))
            have x4 : wr.cell? ⟨b, o + k * 11 + 4, none⟩ = some (.int .i64 (R k).page) := (HB.out.be.cell (p := ⟨b, o + k * 11 + 4, none⟩) hbl).trans (hcs 4 (by omega))
            have x5 : wr.cell? ⟨b, o + k * 11 + 5, none⟩ = some (.int .i64 (R k).off) := (HB.out.be.cell (p := ⟨b, o + k * 11 + 5, none⟩) hbl).trans (hcs 5 (by omega))
            have x6 : wr.cell? ⟨b, o + k * 11 + 6, none⟩ = some (.slice XA (R k).before.length xb) := (HB.out.be.cell (p := ⟨b, o + k * 11 + 6, none⟩) hbl).trans (hcs 6 (by omega))
            have x7 : wr.cell? ⟨b, o + k * 11 + 7, none⟩ = some (.slice XB (R k).after.length xa) := (HB.out.be.cell (p := ⟨b, o + k * 11 + 7, none⟩) hbl).trans (hcs 7 (by omega))
            have x8 : wr.cell? ⟨b, o + k * 11 + 8, none⟩ = some (.slice XT (R k).txns.length xt) := (HB.out.be.cell (p := ⟨b, o + k * 11 + 8, none⟩) hbl).trans (hcs 8 (by omega))
            have x9 : wr.cell? ⟨b, o + k * 11 + 9, none⟩ = some (.slice XD (R k).dirty.length xd) := (HB.out.be.cell (p := ⟨b, o + k * 11 + 9, none⟩) hbl).trans (hcs 9 (by omega))
            have x10 : wr.cell? ⟨b, o + k * 11 + 10, none⟩ = some (.int .i64 (R k).count) := (HB.out.be.cell (p := ⟨b, o + k * 11 + 10, none⟩) hbl).trans (hcs 10 (by omega))
            have hbad := hid (bad_any (R k) XA xb XB xa XT xt XD xd)
            have henc := hid (encode_any (R k) XA xb XB xa XT xt XD xd)
            have Hcs := hid hcs
            clear hm hcs hlen hlen'
            unfold recVal at hbad henc
            go_wp2_with fail
            refine (hbad.out _ (Hm.out.below HB.out.be) (by omega)).mono ?_
            rintro e w1 ⟨rfl, hb1⟩
            have HB1 := hid (HB.out.fresh hb1)
            clear hb1 HB x0 x1 x2 x3 x4 x5 x6 x7 x8 x9 x10
            by_cases hbd : badR (R k) = true
            · rw [hbd]
              go_wp2_with fail
              refine (awake_any _).mono ?_
              rintro e w2 ⟨rfl, hb2⟩
              have HE2 := hid (below_call HB1.out.be hb2 rfl rfl rfl rfl HB1.out.be.size)
              clear hb2
              go_wp2
              go_ret
              exact ⟨rfl, HE2.out⟩
            · have hbd' : badR (R k) = false := by simpa using hbd
              have Hbd := hid hbd'
              rw [hbd']
              clear hbd hbd'
              have hcs := Hcs.out
              have x0 : w1.cell? ⟨b, o + k * 11, none⟩ = some (.int .i64 (R k).kind) := (HB1.out.be.cell (p := ⟨b, o + k * 11, none⟩) hbl).trans (hcs 0 (by omega))
              have x1 : w1.cell? ⟨b, o + k * 11 + 1, none⟩ = some (.int .i64 (R k).txn) := (HB1.out.be.cell (p := ⟨b, o + k * 11 + 1, none⟩) hbl).trans (hcs 1 (by omega))
              have x2 : w1.cell? ⟨b, o + k * 11 + 2, none⟩ = some (.int .i64 (R k).prev) := (HB1.out.be.cell (p := ⟨b, o + k * 11 + 2, none⟩) hbl).trans (hcs 2 (by omega))
              have x3 : w1.cell? ⟨b, o + k * 11 + 3, none⟩ = some (.int .i64 (R k).next) := (HB1.out.be.cell (p := ⟨b, o + k * 11 + 3, none⟩) hbl).trans (hcs 3 (by omega))
              have x4 : w1.cell? ⟨b, o + k * 11 + 4, none⟩ = some (.int .i64 (R k).page) := (HB1.out.be.cell (p := ⟨b, o + k * 11 + 4, none⟩) hbl).trans (hcs 4 (by omega))
              have x5 : w1.cell? ⟨b, o + k * 11 + 5, none⟩ = some (.int .i64 (R k).off) := (HB1.out.be.cell (p := ⟨b, o + k * 11 + 5, none⟩) hbl).trans (hcs 5 (by omega))
              have x6 : w1.cell? ⟨b, o + k * 11 + 6, none⟩ = some (.slice XA (R k).before.length xb) := (HB1.out.be.cell (p := ⟨b, o + k * 11 + 6, none⟩) hbl).trans (hcs 6 (by omega))
              have x7 : w1.cell? ⟨b, o + k * 11 + 7, none⟩ = some (.slice XB (R k).after.length xa) := (HB1.out.be.cell (p := ⟨b, o + k * 11 + 7, none⟩) hbl).trans (hcs 7 (by omega))
              have x8 : w1.cell? ⟨b, o + k * 11 + 8, none⟩ = some (.slice XT (R k).txns.length xt) := (HB1.out.be.cell (p := ⟨b, o + k * 11 + 8, none⟩) hbl).trans (hcs 8 (by omega))
              have x9 : w1.cell? ⟨b, o + k * 11 + 9, none⟩ = some (.slice XD (R k).dirty.length xd) := (HB1.out.be.cell (p := ⟨b, o + k * 11 + 9, none⟩) hbl).trans (hcs 9 (by omega))
              have x10 : w1.cell? ⟨b, o + k * 11 + 10, none⟩ = some (.int .i64 (R k).count) := (HB1.out.be.cell (p := ⟨b, o + k * 11 + 10, none⟩) hbl).trans (hcs 10 (by omega))
              clear hcs
              go_wp2_with fail
              refine (henc.out _ (Hm.out.below HB1.out.be) (by omega)).mono ?_
              rintro e w2 ⟨A5, N5, c5, rfl, hbf⟩
              have hN5 : N5 = (R k).size := by rw [hbf.len, length_enc]
              subst hN5
              have HF := hid hbf
              have HB2 := hid (HB1.out.fresh hbf.be)
              clear hbf x0 x1 x2 x3 x4 x5 x6 x7 x8 x9 x10 HB1
              go_wp2_with (at_builtin; refine wpList_append_any _ rfl (.tmp 36) (.tmp 41) 23 rfl w.heap.size 5 i0 _ 1 1 Try.underlying23 hi hz0 hz1 hz2 rfl (by omega) _ N1 _ rfl HB2.out.own A5 (R k).size c5 _ rfl HF.out.rd (u8s_one _) (by unfold maxLen; omega) (by omega) HB2.out.be.size ?_)
              intro v3 w3 hown hg hat
              obtain ⟨A3, N3, c3, rfl, hb3, _⟩ := HB2.out.append (length_enc _) hown hg hat
              rw [← cat_succ] at hb3
              have HB3 := hid hb3
              clear hb3 hown hg hat HB2 HF
              go_wp2
              go_roundw
              case rel =>
                refine ⟨k + 1, by omega, by omega, by go_num, by go_num, fun q hq => ?_, A3, N3, c3, rfl, HB3.out⟩
                rcases Nat.lt_or_ge q k with h1 | h1
                · exact Hg.out q h1
                · have : q = k := by omega
                  subst this; exact Hbd.out
              case measure => simp [intOf]; omega
          · have hlt2' : decide ((k : Int) < 20) = false := by simp; omega
            go_wp2
            go_meet
            exact ⟨k, hk20, hkn, rfl, Hg.out, A1, N1, c1, rfl, HB.out⟩
        · have hlt' : decide ((k : Int) < (n : Int)) = false := by simp; omega
          go_wp2
          go_meet
          exact ⟨k, hk20, hkn, rfl, Hg.out, A1, N1, c1, rfl, HB.out⟩
  case rest =>
    obtain ⟨m, hm20, hmn, rfl, hgood, A1, N1, c1, rfl, hb⟩ := hcut
    have HB := hid hb
    have Hg := hid hgood
    have hcat : (cat R m).length ≤ 27000000 := by
      have h1 := len_cat R m
      have h2 := hW.out m hmn
      omega
    have hcap := own_cap hb.own
    have hfar := hid (show ∀ ad, A1 = some ad → ad.block < wc.heap.size from fun ad e => (hb.own.lt ad.block (by rw [e]; rfl)).2)
    clear hb hgood
    go_wp2_with fail
    go_loopw [8, 9] (fun v i wr => ∃ k : Nat, k ≤ m ∧ i = .int .i64 k ∧ ∃ A' N' c', v = .slice A' N' c' ∧ Below wc.heap.size wc wr ∧ Rd wr 1 A' N' (u8s (suf R k m)) ∧ N' = (suf R k m).length ∧ N' ≤ c' ∧ ∀ ad, A' = some ad → ad.block < wr.heap.size) (fun _ i _ => m - (intOf i).toNat)
    case atStart => exact ⟨0, by omega, rfl, A1, N1, c1, rfl, Below.refl _ _, by rw [suf_zero]; exact HB.out.rd, by rw [suf_zero]; exact HB.out.len, hcap, hfar.out⟩
    case round =>
      obtain ⟨k, hkm, rfl, A2, N2, c2, rfl, hbe, hrd, hN2, hc2, hf2⟩ := hrel
      have HBe := hid hbe
      have Hrd := hid hrd
      have HN2 := hid hN2
      have Hf2 := hid hf2
      have hlsuf := hid (Nat.le_trans (len_suf R k m) hcat)
      clear hbe hrd hN2 hf2
      by_cases hlt : k < m
      · have hlt' : (k : Int) < (m : Int) := by omega
        have hkn : k < n := by omega
        obtain ⟨b, o, XA, xb, XB, xa, XT, xt, XD, xd, rfl, hbl, hcs, hm⟩ := H.out k hkn
        have Hm := hid hm
        have Hcs := hid hcs
        have hsz : (R k).size ≤ 26000000 := by
          have h1 := size_wt (R k)
          have h2 := hW.out (k + 1) (by omega)
          simp only [sumW] at h2
          omega
        have hsz96 : 96 ≤ (R k).size := by unfold MRec.size; omega
        have hgk := hid (good_of_bad (R k) (Hg.out k hlt) (by omega))
        have hstep := hid (suf_step R k m hlt)
        have hdec := hid (dec_enc (R k) hgk.out (suf R (k + 1) m))
        have hlen2 : (R k).size ≤ N2 := by rw [HN2.out, hstep.out, List.length_append, length_enc]; omega
        clear hm hcs
        go_wp2_with fail
        refine (decode_any A2 N2 c2 (suf R k m) _ Hrd.out HN2.out hc2 (by have := hlsuf.out; omega) Hf2.out).mono ?_
        rintro e w4 ⟨YA, yb, YB, ya, YT, yt, YD, yd, rfl, hnew, hb4⟩
        have e1 : decR (suf R k m) = R k := by rw [decR, hstep.out, hdec.out]
        have e2 : decK (suf R k m) = (R k).size := by rw [decK, hstep.out, hdec.out]
        have e3 : decB (suf R k m) = true := by rw [decB, hstep.out, hdec.out]; rfl
        rw [e1] at hnew
        rw [e1, e2, e3]
        have hv2 : recVal (R k) YA yb YB ya YT yt YD yd = .agg #[.int .i64 (R k).kind, .int .i64 (R k).txn, .int .i64 (R k).prev, .int .i64 (R k).next, .int .i64 (R k).page, .int .i64 (R k).off, .slice YA (R k).before.length yb, .slice YB (R k).after.length ya, .slice YT (R k).txns.length yt, .slice YD (R k).dirty.length yd, .int .i64 (R k).count] := rfl
        rw [hv2]
        have HB4 := hid (HBe.out.trans (hb4.mono HBe.out.size))
        have HN4 := hid hnew
        have HR4 := hid (Hrd.out.below hb4)
        have Hf4 := hid (fun ad e => Nat.lt_of_lt_of_le (Hf2.out ad e) hb4.size)
        have HE4 := hid (HB.out.be.trans (HB4.out.mono HB.out.be.size))
        clear hnew hb4 e1 e2 e3
        have hcs := Hcs.out
        have HA4 := hid (HE4.out.alloc HE4.out.size (.cells #[.int .i64 (R k).kind, .int .i64 (R k).txn, .int .i64 (R k).prev, .int .i64 (R k).next, .int .i64 (R k).page, .int .i64 (R k).off, .slice YA (R k).before.length yb, .slice YB (R k).after.length ya, .slice YT (R k).txns.length yt, .slice YD (R k).dirty.length yd, .int .i64 (R k).count] 28))
        have hsame := hid (same_any (R k) YA yb YB ya YT yt YD yd XA xb XB xa XT xt XD xd)
        unfold recVal at hsame
        have x0 : (w4.alloc (.cells #[.int .i64 (R k).kind, .int .i64 (R k).txn, .int .i64 (R k).prev, .int .i64 (R k).next, .int .i64 (R k).page, .int .i64 (R k).off, .slice YA (R k).before.length yb, .slice YB (R k).after.length ya, .slice YT (R k).txns.length yt, .slice YD (R k).dirty.length yd, .int .i64 (R k).count] 28)).cell? ⟨b, o + k * 11, none⟩ = some (.int .i64 (R k).kind) := (HA4.out.cell (p := ⟨b, o + k * 11, none⟩) hbl).trans (hcs 0 (by omega))
        have x1 : (w4.alloc (.cells #[.int .i64 (R k).kind, .int .i64 (R k).txn, .int .i64 (R k).prev, .int .i64 (R k).next, .int .i64 (R k).page, .int .i64 (R k).off, .slice YA (R k).before.length yb, .slice YB (R k).after.length ya, .slice YT (R k).txns.length yt, .slice YD (R k).dirty.length yd, .int .i64 (R k).count] 28)).cell? ⟨b, o + k * 11 + 1, none⟩ = some (.int .i64 (R k).txn) := (HA4.out.cell (p := ⟨b, o + k * 11 + 1, none⟩) hbl).trans (hcs 1 (by omega))
        have x2 : (w4.alloc (.cells #[.int .i64 (R k).kind, .int .i64 (R k).txn, .int .i64 (R k).prev, .int .i64 (R k).next, .int .i64 (R k).page, .int .i64 (R k).off, .slice YA (R k).before.length yb, .slice YB (R k).after.length ya, .slice YT (R k).txns.length yt, .slice YD (R k).dirty.length yd, .int .i64 (R k).count] 28)).cell? ⟨b, o + k * 11 + 2, none⟩ = some (.int .i64 (R k).prev) := (HA4.out.cell (p := ⟨b, o + k * 11 + 2, none⟩) hbl).trans (hcs 2 (by omega))
        have x3 : (w4.alloc (.cells #[.int .i64 (R k).kind, .int .i64 (R k).txn, .int .i64 (R k).prev, .int .i64 (R k).next, .int .i64 (R k).page, .int .i64 (R k).off, .slice YA (R k).before.length yb, .slice YB (R k).after.length ya, .slice YT (R k).txns.length yt, .slice YD (R k).dirty.length yd, .int .i64 (R k).count] 28)).cell? ⟨b, o + k * 11 + 3, none⟩ = some (.int .i64 (R k).next) := (HA4.out.cell (p := ⟨b, o + k * 11 + 3, none⟩) hbl).trans (hcs 3 (by omega))
        have x4 : (w4.alloc (.cells #[.int .i64 (R k).kind, .int .i64 (R k).txn, .int .i64 (R k).prev, .int .i64 (R k).next, .int .i64 (R k).page, .int .i64 (R k).off, .slice YA (R k).before.length yb, .slice YB (R k).after.length ya, .slice YT (R k).txns.length yt, .slice YD (R k).dirty.length yd, .int .i64 (R k).count] 28)).cell? ⟨b, o + k * 11 + 4, none⟩ = some (.int .i64 (R k).page) := (HA4.out.cell (p := ⟨b, o + k * 11 + 4, none⟩) hbl).trans (hcs 4 (by omega))
        have x5 : (w4.alloc (.cells #[.int .i64 (R k).kind, .int .i64 (R k).txn, .int .i64 (R k).prev, .int .i64 (R k).next, .int .i64 (R k).page, .int .i64 (R k).off, .slice YA (R k).before.length yb, .slice YB (R k).after.length ya, .slice YT (R k).txns.length yt, .slice YD (R k).dirty.length yd, .int .i64 (R k).count] 28)).cell? ⟨b, o + k * 11 + 5, none⟩ = some (.int .i64 (R k).off) := (HA4.out.cell (p := ⟨b, o + k * 11 + 5, none⟩) hbl).trans (hcs 5 (by omega))
        have x6 : (w4.alloc (.cells #[.int .i64 (R k).kind, .int .i64 (R k).txn, .int .i64 (R k).prev, .int .i64 (R k).next, .int .i64 (R k).page, .int .i64 (R k).off, .slice YA (R k).before.length yb, .slice YB (R k).after.length ya, .slice YT (R k).txns.length yt, .slice YD (R k).dirty.length yd, .int .i64 (R k).count] 28)).cell? ⟨b, o + k * 11 + 6, none⟩ = some (.slice XA (R k).before.length xb) := (HA4.out.cell (p := ⟨b, o + k * 11 + 6, none⟩) hbl).trans (hcs 6 (by omega))
        have x7 : (w4.alloc (.cells #[.int .i64 (R k).kind, .int .i64 (R k).txn, .int .i64 (R k).prev, .int .i64 (R k).next, .int .i64 (R k).page, .int .i64 (R k).off, .slice YA (R k).before.length yb, .slice YB (R k).after.length ya, .slice YT (R k).txns.length yt, .slice YD (R k).dirty.length yd, .int .i64 (R k).count] 28)).cell? ⟨b, o + k * 11 + 7, none⟩ = some (.slice XB (R k).after.length xa) := (HA4.out.cell (p := ⟨b, o + k * 11 + 7, none⟩) hbl).trans (hcs 7 (by omega))
        have x8 : (w4.alloc (.cells #[.int .i64 (R k).kind, .int .i64 (R k).txn, .int .i64 (R k).prev, .int .i64 (R k).next, .int .i64 (R k).page, .int .i64 (R k).off, .slice YA (R k).before.length yb, .slice YB (R k).after.length ya, .slice YT (R k).txns.length yt, .slice YD (R k).dirty.length yd, .int .i64 (R k).count] 28)).cell? ⟨b, o + k * 11 + 8, none⟩ = some (.slice XT (R k).txns.length xt) := (HA4.out.cell (p := ⟨b, o + k * 11 + 8, none⟩) hbl).trans (hcs 8 (by omega))
        have x9 : (w4.alloc (.cells #[.int .i64 (R k).kind, .int .i64 (R k).txn, .int .i64 (R k).prev, .int .i64 (R k).next, .int .i64 (R k).page, .int .i64 (R k).off, .slice YA (R k).before.length yb, .slice YB (R k).after.length ya, .slice YT (R k).txns.length yt, .slice YD (R k).dirty.length yd, .int .i64 (R k).count] 28)).cell? ⟨b, o + k * 11 + 9, none⟩ = some (.slice XD (R k).dirty.length xd) := (HA4.out.cell (p := ⟨b, o + k * 11 + 9, none⟩) hbl).trans (hcs 9 (by omega))
        have x10 : (w4.alloc (.cells #[.int .i64 (R k).kind, .int .i64 (R k).txn, .int .i64 (R k).prev, .int .i64 (R k).next, .int .i64 (R k).page, .int .i64 (R k).off, .slice YA (R k).before.length yb, .slice YB (R k).after.length ya, .slice YT (R k).txns.length yt, .slice YD (R k).dirty.length yd, .int .i64 (R k).count] 28)).cell? ⟨b, o + k * 11 + 10, none⟩ = some (.int .i64 (R k).count) := (HA4.out.cell (p := ⟨b, o + k * 11 + 10, none⟩) hbl).trans (hcs 10 (by omega))
        obtain ⟨⟨y0, y1, y2, y3, y4, y5, y6, y7, y8, y9, y10⟩, _⟩ := blk11_ (Blk.new w4 28 #[.int .i64 (R k).kind, .int .i64 (R k).txn, .int .i64 (R k).prev, .int .i64 (R k).next, .int .i64 (R k).page, .int .i64 (R k).off, .slice YA (R k).before.length yb, .slice YB (R k).after.length ya, .slice YT (R k).txns.length yt, .slice YD (R k).dirty.length yd, .int .i64 (R k).count])
        have hY := hid (Blk.new w4 28 #[.int .i64 (R k).kind, .int .i64 (R k).txn, .int .i64 (R k).prev, .int .i64 (R k).next, .int .i64 (R k).page, .int .i64 (R k).off, .slice YA (R k).before.length yb, .slice YB (R k).after.length ya, .slice YT (R k).txns.length yt, .slice YD (R k).dirty.length yd, .int .i64 (R k).count])
        clear hcs
        have g1 : decide (((R k).size : Int) < 96) = false := by simp; omega
        have g2 : decide ((N2 : Int) < ((R k).size : Int)) = false := by simp; omega
        have g3 : decide (N2 < (R k).size) = false := by simp; omega
        have g4 : decide ((R k).size < 96) = false := by simp; omega
        go_wp2_with fail
        go_region_held3 (fun w' => w'.cell? ⟨b, o + k * 11, none⟩ = some (.int .i64 (R k).kind) ∧ w'.cell? ⟨b, o + k * 11 + 1, none⟩ = some (.int .i64 (R k).txn) ∧ w'.cell? ⟨b, o + k * 11 + 2, none⟩ = some (.int .i64 (R k).prev) ∧ w'.cell? ⟨b, o + k * 11 + 3, none⟩ = some (.int .i64 (R k).next) ∧ w'.cell? ⟨b, o + k * 11 + 4, none⟩ = some (.int .i64 (R k).page) ∧ w'.cell? ⟨b, o + k * 11 + 5, none⟩ = some (.int .i64 (R k).off) ∧ w'.cell? ⟨b, o + k * 11 + 6, none⟩ = some (.slice XA (R k).before.length xb) ∧ w'.cell? ⟨b, o + k * 11 + 7, none⟩ = some (.slice XB (R k).after.length xa) ∧ w'.cell? ⟨b, o + k * 11 + 8, none⟩ = some (.slice XT (R k).txns.length xt) ∧ w'.cell? ⟨b, o + k * 11 + 9, none⟩ = some (.slice XD (R k).dirty.length xd) ∧ w'.cell? ⟨b, o + k * 11 + 10, none⟩ = some (.int .i64 (R k).count) ∧ w'.cell? ⟨w4.heap.size, 0, none⟩ = some (.int .i64 (R k).kind) ∧ w'.cell? ⟨w4.heap.size, 1, none⟩ = some (.int .i64 (R k).txn) ∧ w'.cell? ⟨w4.heap.size, 2, none⟩ = some (.int .i64 (R k).prev) ∧ w'.cell? ⟨w4.heap.size, 3, none⟩ = some (.int .i64 (R k).next) ∧ w'.cell? ⟨w4.heap.size, 4, none⟩ = some (.int .i64 (R k).page) ∧ w'.cell? ⟨w4.heap.size, 5, none⟩ = some (.int .i64 (R k).off) ∧ w'.cell? ⟨w4.heap.size, 6, none⟩ = some (.slice YA (R k).before.length yb) ∧ w'.cell? ⟨w4.heap.size, 7, none⟩ = some (.slice YB (R k).after.length ya) ∧ w'.cell? ⟨w4.heap.size, 8, none⟩ = some (.slice YT (R k).txns.length yt) ∧ w'.cell? ⟨w4.heap.size, 9, none⟩ = some (.slice YD (R k).dirty.length yd) ∧ w'.cell? ⟨w4.heap.size, 10, none⟩ = some (.int .i64 (R k).count))
          (first
            | (exact ⟨k0, k1, k2, k3, k4, k5, k6, k7, k8, k9, k10, q0, q1, q2, q3, q4, q5, q6, q7, q8, q9, q10⟩)
            | (exact ⟨x0, x1, x2, x3, x4, x5, x6, x7, x8, x9, x10, y0, y1, y2, y3, y4, y5, y6, y7, y8, y9, y10⟩)
            | go_keep)
          (first
            | (go_at_call 12
               refine (hsame.out _ (by exact (HN4.out.mem.below ((Below.refl w4.heap.size w4).alloc (Nat.le_refl _) (.cells #[.int .i64 (R k).kind, .int .i64 (R k).txn, .int .i64 (R k).prev, .int .i64 (R k).next, .int .i64 (R k).page, .int .i64 (R k).off, .slice YA (R k).before.length yb, .slice YB (R k).after.length ya, .slice YT (R k).txns.length yt, .slice YD (R k).dirty.length yd, .int .i64 (R k).count] 28))).of_heap rfl) (by exact (Hm.out.below HA4.out).of_heap rfl) (by omega)).mono ?_
               rintro e w5 ⟨rfl, hb5⟩
               have HE5 := hid (below_call HA4.out hb5 rfl rfl rfl rfl (by have := HE4.out.size; simp; omega))
               have HB5 := hid (below_call ((Below.refl w4.heap.size w4).alloc (Nat.le_refl _) (.cells #[.int .i64 (R k).kind, .int .i64 (R k).txn, .int .i64 (R k).prev, .int .i64 (R k).next, .int .i64 (R k).page, .int .i64 (R k).off, .slice YA (R k).before.length yb, .slice YB (R k).after.length ya, .slice YT (R k).txns.length yt, .slice YD (R k).dirty.length yd, .int .i64 (R k).count] 28)) hb5 rfl rfl rfl rfl (by simp))
               have hcs := Hcs.out
               have k0 : w5.cell? ⟨b, o + k * 11, none⟩ = some (.int .i64 (R k).kind) := (HE5.out.cell (p := ⟨b, o + k * 11, none⟩) hbl).trans (hcs 0 (by omega))
               have k1 : w5.cell? ⟨b, o + k * 11 + 1, none⟩ = some (.int .i64 (R k).txn) := (HE5.out.cell (p := ⟨b, o + k * 11 + 1, none⟩) hbl).trans (hcs 1 (by omega))
               have k2 : w5.cell? ⟨b, o + k * 11 + 2, none⟩ = some (.int .i64 (R k).prev) := (HE5.out.cell (p := ⟨b, o + k * 11 + 2, none⟩) hbl).trans (hcs 2 (by omega))
               have k3 : w5.cell? ⟨b, o + k * 11 + 3, none⟩ = some (.int .i64 (R k).next) := (HE5.out.cell (p := ⟨b, o + k * 11 + 3, none⟩) hbl).trans (hcs 3 (by omega))
               have k4 : w5.cell? ⟨b, o + k * 11 + 4, none⟩ = some (.int .i64 (R k).page) := (HE5.out.cell (p := ⟨b, o + k * 11 + 4, none⟩) hbl).trans (hcs 4 (by omega))
               have k5 : w5.cell? ⟨b, o + k * 11 + 5, none⟩ = some (.int .i64 (R k).off) := (HE5.out.cell (p := ⟨b, o + k * 11 + 5, none⟩) hbl).trans (hcs 5 (by omega))
               have k6 : w5.cell? ⟨b, o + k * 11 + 6, none⟩ = some (.slice XA (R k).before.length xb) := (HE5.out.cell (p := ⟨b, o + k * 11 + 6, none⟩) hbl).trans (hcs 6 (by omega))
               have k7 : w5.cell? ⟨b, o + k * 11 + 7, none⟩ = some (.slice XB (R k).after.length xa) := (HE5.out.cell (p := ⟨b, o + k * 11 + 7, none⟩) hbl).trans (hcs 7 (by omega))
               have k8 : w5.cell? ⟨b, o + k * 11 + 8, none⟩ = some (.slice XT (R k).txns.length xt) := (HE5.out.cell (p := ⟨b, o + k * 11 + 8, none⟩) hbl).trans (hcs 8 (by omega))
               have k9 : w5.cell? ⟨b, o + k * 11 + 9, none⟩ = some (.slice XD (R k).dirty.length xd) := (HE5.out.cell (p := ⟨b, o + k * 11 + 9, none⟩) hbl).trans (hcs 9 (by omega))
               have k10 : w5.cell? ⟨b, o + k * 11 + 10, none⟩ = some (.int .i64 (R k).count) := (HE5.out.cell (p := ⟨b, o + k * 11 + 10, none⟩) hbl).trans (hcs 10 (by omega))
               obtain ⟨⟨q0, q1, q2, q3, q4, q5, q6, q7, q8, q9, q10⟩, _⟩ := blk11_ (Blk.call hY.out hb5 rfl)
               clear hcs))
        clear x0 x1 x2 x3 x4 x5 x6 x7 x8 x9 x10 y0 y1 y2 y3 y4 y5 y6 y7 y8 y9 y10 k0 k1 k2 k3 k4 k5 k6 k7 k8 k9 k10 q0 q1 q2 q3 q4 q5 q6 q7 q8 q9 q10 hb5 HA4 hsame hY
        have HE5 := hid (HE5.out)
        have HBe5 := hid (HB4.out.trans (HB5.out.mono HB4.out.size))
        have HR5 := hid (HR4.out.below HB5.out)
        have Hf5 := hid (fun ad e => Nat.lt_of_lt_of_le (Hf4.out ad e) HB5.out.size)
        have hp : (0 : Int) < ((R k).size : Int) := by omega
        have t1 := Int.lt_tmod_of_pos short hp
        have t2 := Int.tmod_lt_of_pos short hp
        have t3 : 0 ≤ (short.tmod ((R k).size : Int) + ((R k).size : Int)).tmod ((R k).size : Int) := Int.tmod_nonneg _ (by omega)
        have t4 := Int.tmod_lt_of_pos (short.tmod ((R k).size : Int) + ((R k).size : Int)) hp
        obtain ⟨hsl1, hr1⟩ := sl_to HR5.out ((short.tmod ((R k).size : Int) + ((R k).size : Int)).tmod ((R k).size : Int)).toNat ((short.tmod ((R k).size : Int) + ((R k).size : Int)).tmod ((R k).size : Int)) (by omega) (by omega) hc2
        obtain ⟨A6, hsl2, hf6, hr2⟩ := sl_from HR5.out Hf5.out (R k).size _ rfl hlen2 hc2
        generalize hcu : ((short.tmod ((R k).size : Int) + ((R k).size : Int)).tmod ((R k).size : Int)) = cu at *
        have e1 : (u8s (suf R k m)).take cu.toNat = u8s ((R k).enc.take cu.toNat) := by
          rw [hstep.out, u8s_append, List.take_append_of_le_length (by rw [length_u8s, length_enc]; omega)]
          simp [u8s, List.map_take]
        have e2 : (u8s (suf R k m)).drop (R k).size = u8s (suf R (k + 1) m) := by
          rw [hstep.out, u8s_append, List.drop_append_of_le_length (by rw [length_u8s, length_enc]; exact Nat.le_refl _), List.drop_eq_nil_of_le (by rw [length_u8s, length_enc]; exact Nat.le_refl _), List.nil_append]
        rw [e1] at hr1
        rw [e2] at hr2
        have Hr1 := hid hr1
        have Hr2 := hid hr2
        have Hf6 := hid hf6
        have hdec2 := hid (dec_short (R k) (by omega) cu.toNat (by omega))
        have hls := hid (show N2 - (R k).size = (suf R (k + 1) m).length by rw [HN2.out, hstep.out, List.length_append, length_enc]; omega)
        clear hr1 hr2 hf6 e1 e2 g1 g2 g3 g4
        go_wp2_with fail
        refine (decode_any A2 cu.toNat c2 ((R k).enc.take cu.toNat) _ Hr1.out (by rw [List.length_take, length_enc]; omega) (by omega) (by rw [List.length_take, length_enc]; omega) Hf5.out).mono ?_
        rintro e w6 ⟨ZA, za, ZB, zb, ZT, zt, ZD, zd, rfl, hnew, hb6⟩
        have e1 : decR ((R k).enc.take cu.toNat) = rec0 := by rw [decR, hdec2.out]
        have e2 : decK ((R k).enc.take cu.toNat) = 0 := by rw [decK, hdec2.out]
        have e3 : decB ((R k).enc.take cu.toNat) = false := by rw [decB, hdec2.out]; rfl
        rw [e1, e2, e3]
        have hv3 : recVal rec0 ZA za ZB zb ZT zt ZD zd = .agg #[.int .i64 0, .int .i64 0, .int .i64 0, .int .i64 0, .int .i64 0, .int .i64 0, .slice ZA 0 za, .slice ZB 0 zb, .slice ZT 0 zt, .slice ZD 0 zd, .int .i64 0] := rfl
        rw [hv3]
        have HBe6 := hid ((HBe5.out.trans (hb6.mono HBe5.out.size)).alloc (by have := HBe5.out.size; have := hb6.size; omega) (.cells #[.int .i64 0, .int .i64 0, .int .i64 0, .int .i64 0, .int .i64 0, .int .i64 0, .slice ZA 0 za, .slice ZB 0 zb, .slice ZT 0 zt, .slice ZD 0 zd, .int .i64 0] 28))
        have HR6 := hid ((Hr2.out.below hb6).below ((Below.refl w6.heap.size w6).alloc (Nat.le_refl _) (.cells #[.int .i64 0, .int .i64 0, .int .i64 0, .int .i64 0, .int .i64 0, .int .i64 0, .slice ZA 0 za, .slice ZB 0 zb, .slice ZT 0 zt, .slice ZD 0 zd, .int .i64 0] 28)))
        have Hf6' := hid (show ∀ ad, A6 = some ad → ad.block < (w6.alloc (.cells #[.int .i64 0, .int .i64 0, .int .i64 0, .int .i64 0, .int .i64 0, .int .i64 0, .slice ZA 0 za, .slice ZB 0 zb, .slice ZT 0 zt, .slice ZD 0 zd, .int .i64 0] 28)).heap.size from fun ad e => by have := Hf6.out ad e; have := hb6.size; simp; omega)
        clear hnew hb6 e1 e2 e3
        go_wp2
        go_roundw
        case rel => exact ⟨k + 1, by omega, by go_num, A6, N2 - (R k).size, c2 - (R k).size, by first | rfl | assumption, HBe6.out, HR6.out, hls.out, by omega, Hf6'.out⟩
        case measure => simp [intOf]; omega
      · have hkm' : Hid (k = m) := hid (by omega)
        have hlt' : decide ((k : Int) < (m : Int)) = false := by simp; omega
        have hN0 : N2 = 0 := by have := HN2.out; rw [hkm'.out, suf_end] at this; simpa using this
        subst hN0
        have hrd0 : Hid (Rd wr 1 A2 0 (u8s [])) := hid (by have := Hrd.out; rw [hkm'.out, suf_end] at this; exact this)
        have hz := hid (show dec [] = none from by unfold dec; rw [if_pos]; left; rw [num_bad _ (.inr (.inl (by simp)))])
        go_wp2_with fail
        refine (decode_any A2 0 c2 [] _ hrd0.out rfl (by omega) (by simp) Hf2.out).mono ?_
        rintro e w6 ⟨ZA, za, ZB, zb, ZT, zt, ZD, zd, rfl, hnew, hb6⟩
        have e1 : decR [] = rec0 := by rw [decR, hz.out]
        have e2 : decK [] = 0 := by rw [decK, hz.out]
        have e3 : decB [] = false := by rw [decB, hz.out]; rfl
        rw [e1, e2, e3]
        have hv3 : recVal rec0 ZA za ZB zb ZT zt ZD zd = .agg #[.int .i64 0, .int .i64 0, .int .i64 0, .int .i64 0, .int .i64 0, .int .i64 0, .slice ZA 0 za, .slice ZB 0 zb, .slice ZT 0 zt, .slice ZD 0 zd, .int .i64 0] := rfl
        rw [hv3]
        have HE6 := hid ((HB.out.be.trans ((HBe.out.trans (hb6.mono HBe.out.size)).mono HB.out.be.size)).alloc (by have := HB.out.be.size; have := HBe.out.size; have := hb6.size; omega) (.cells #[.int .i64 0, .int .i64 0, .int .i64 0, .int .i64 0, .int .i64 0, .int .i64 0, .slice ZA 0 za, .slice ZB 0 zb, .slice ZT 0 zt, .slice ZD 0 zd, .int .i64 0] 28))
        clear hnew hb6 e1 e2 e3
        go_wp2_with fail
        refine (awake_any _).mono ?_
        rintro e w7 ⟨rfl, hb7⟩
        have HE7 := hid (below_call HE6.out hb7 rfl rfl rfl rfl HE6.out.size)
        clear hb7
        go_wp2
        go_ret
        exact ⟨rfl, HE7.out⟩
end Go.Proofs.Ytkpopjpmjcgbfaa
