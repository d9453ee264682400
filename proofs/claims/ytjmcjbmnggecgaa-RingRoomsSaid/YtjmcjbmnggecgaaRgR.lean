/- The walk of RingRooms. No conditions. -/
import Derived.Test.YtjmcjbmnggecgaaRmx
namespace Go.Proofs.Ytjmcjbmnggecgaa
open Go.RowKit
set_option maxRecDepth 100000
set_option linter.unusedVariables false
set_option linter.unusedSimpArgs false

set_option maxHeartbeats 6400000 in
theorem rooms_any (A0 : Option Addr) (n0 c0 : Nat) (z : Int) (w : World) (h0 : RowsAt w A0 n0) (l0 : n0 ≤ 9223372036854775807) (hz1 : -9223372036854775808 ≤ z) (hz2 : z ≤ 9223372036854775807) :
    Calls Try.prog 7 #[.slice A0 n0 c0, .int .i64 z] w fun e w' => e = .returned (.bool true) ∧ Below w.heap.size w w' := by
  have H0 := hid h0
  have haw := hid rawake_any
  clear h0
  by_cases hz : 2 ≤ z ∧ z ≤ 30
  · as_aux_lemma =>
    obtain ⟨n, rfl⟩ : ∃ n : Nat, z = (n : Int) := ⟨z.toNat, by omega⟩
    have hn2 : 2 ≤ n := by omega
    have hn30 : n ≤ 30 := by omega
    have g1 : ¬ ((n : Int) < 2) := by omega
    have g2 : ¬ (30 < (n : Int)) := by omega
    clear hz1 hz2 hz
    go_enter Try.func7, Try.ntmps7
    go_wp2_with fail
    refine (new_up 30 _ (by omega) (by omega)).mono ?_
    rintro e w1 ⟨D, F, G, rfl, hu, hge, hb1⟩
    have hop := hid (rl_open (w := w) hu hge hb1 0 n 0 hn2 (by omega) (by simp; omega) (by simp) [] (rinv_new 30 0 n (by omega) (by omega)) (by omega))
    clear hu hge hb1
    go_wp2_with fail
    refine hop.out.mono ?_
    rintro e w2 ⟨R, B, rfl, hS, hB, hC⟩
    have HS0 : Hid (∃ q, RX w w2 R D q ∧ q.n = n ∧ q.tail ≤ 4000 * 0 ∧ q.fin = q.tail) := hid ⟨_, ⟨F, G, B, _, hS⟩, rfl, Nat.le_refl _, rfl⟩
    clear hop hS hB hC
    go_upto_block 0 with fail
    go_cut [9] (fun _ wx => ∃ q, RX w wx R D q ∧ q.fin = q.tail)
    case first => as_aux_lemma =>
      go_wp2_with fail
      go_loopw [9] (fun i wr => ∃ k : Nat, k ≤ 40 ∧ i = .int .i64 k ∧ ∃ q, RX w wr R D q ∧ q.n = n ∧ q.tail ≤ 4000 * k ∧ q.fin = q.tail) (fun i _ => 40 - (intOf i).toNat)
      case atStart => exact ⟨0, by omega, rfl, HS0.out⟩
      case round => as_aux_lemma =>
        obtain ⟨k, hk, rfl, q, hX, hqn, hqt, hqf⟩ := hrel
        have HX := hid hX
        have HQN := hid hqn
        have HQF := hid hqf
        clear HS0 hqn hqf
        by_cases hgo : k < n0 ∧ k < 40
        · as_aux_lemma =>
          obtain ⟨hk0, hk40⟩ := hgo
          have hk0' : (k : Int) < (n0 : Int) := by omega
          have hk40' : (k : Int) < 40 := by omega
          obtain ⟨b, o, A4, c4, d, rfl, hb, hcell0, hrd, hdc, hdm⟩ := H0.out.lit hk0
          have HDL := hid (Nat.le_trans hdc hdm)
          clear hdm
          have HRD := hid (hrd.below hX.be)
          have hbw := hid hX.be
          have hcell : wr.cell? ⟨b, o + k, none⟩ = some (.slice A4 d.length c4) := (hX.be.cell (p := ⟨b, o + k, none⟩) hb).trans hcell0
          obtain ⟨rm, hrm⟩ : ∃ rm, rm = q.room := ⟨_, rfl⟩
          obtain ⟨tl, htl⟩ : ∃ tl, tl = q.tail := ⟨_, rfl⟩
          have hro := hid (rx_room hX)
          have hta := hid (fun m => rx_tail (hX.drewN m))
          have hT := hX.ok.tl.1
          have hTs := hX.ok.e1
          have hTc := hX.ok.c
          have hTn := hX.ok.n8
          rw [← hrm] at hro
          rw [← htl] at hta hqt
          have HRM := hid hrm
          have HTL := hid htl
          have hqf := HQF.out
          have hqn := HQN.out
          have hTe := hX.ok.e2
          have hrb : rm ≤ 4000 := by rw [hrm]; unfold MRing.room; rw [hqn]; omega
          clear hX hrd hrm htl hqf hqn hcell0 hTs hTc hTn hTe
          go_wp2_with fail
          refine hro.out.mono ?_
          rintro e w3 ⟨rfl, m3, rfl⟩
          go_wp2_with fail
          refine (hta.out m3).mono ?_
          rintro e w4 ⟨rfl, m4, rfl⟩
          have hbe4 : Below wr.heap.size wr (wr.drewN (m3 + m4)) := below_drewN (Below.refl _ _) (m3 + m4)
          have HX4 := hid (HX.out.below hbe4)
          have HR4 := hid (HRD.out.below hbe4)
          clear hro hta HX hbe4
          by_cases hfit : d.length ≤ rm
          · as_aux_lemma =>
            have hap := hid (rx_append HX4.out A4 d.length c4 d HR4.out rfl (by have := HRM.out; omega))
            have hfit' : (d.length : Int) ≤ (rm : Int) := by omega
            have hw1 : IntKind.i64.wrap ((rm : Int) - (d.length : Int)) = (rm : Int) - (d.length : Int) := by rw [IntKind.wrap_i64]; omega
            have hw2 : IntKind.i64.wrap ((tl : Int) + (d.length : Int)) = (tl : Int) + (d.length : Int) := by rw [IntKind.wrap_i64]; omega
            go_wp2_with fail
            refine hap.out.mono ?_
            rintro e w5 ⟨rfl, q1, hX1, ht1, hr1, hn1, hs1, hf1⟩
            have hro := fun m => rx_room (hX1.drewN m)
            have hta := fun m => rx_tail (hX1.drewN m)
            have et : ((q1.tail : Nat) : Int) = (tl : Int) + (d.length : Int) := by have := HTL.out; omega
            have er : ((q1.room : Nat) : Int) = (rm : Int) - (d.length : Int) := by have := HRM.out; omega
            rw [et] at hta
            rw [er] at hro
            have HRO := hid hro
            have HTA := hid hta
            have HX1 := hid hX1
            have HT1 := hid ht1
            have hn1' := hn1.trans HQN.out
            have HN1 := hid hn1'
            have hcell5 : w5.cell? ⟨b, o + k, none⟩ = some (.slice A4 d.length c4) := (hX1.be.cell (p := ⟨b, o + k, none⟩) hb).trans ((hbw.out.cell (p := ⟨b, o + k, none⟩) hb).symm.trans hcell)
            clear hap hro hta et er hX1 ht1 hr1 hn1 hs1 hf1 hn1' hcell HX4
            go_wp2_with fail
            go_quiet ((first | (go_at_call 33; exact Calls.quiet_of (HTA.out _)) | (go_at_call 32; exact Calls.quiet_of (HRO.out _))))
            have hfl := hid (rx_flush (HX1.out.drewN nq))
            go_wp2_with fail
            refine hfl.out.mono ?_
            rintro e w6 ⟨rfl, q2, hX2, ht2, _, hn2', _, hf2⟩
            have et2 : q2.tail = tl + d.length := by have := HTL.out; have := HT1.out; omega
            have ef2 : q2.fin = tl + d.length := by have := HTL.out; have := HT1.out; omega
            have hen := rx_end hX2
            have hta := rx_tail hX2
            have hpe := fun m => rx_pending (hX2.drewN m)
            rw [ef2] at hen
            rw [et2] at hta
            have HEN := hid hen
            have HTA2 := hid hta
            have HPE := hid hpe
            have HREL : Hid (∃ q, RX w w6 R D q ∧ q.n = n ∧ q.tail ≤ 4000 * (k + 1) ∧ q.fin = q.tail) := hid ⟨q2, hX2, by have := HN1.out; omega, by omega, by omega⟩
            clear hfl hX2 ht2 hn2' hf2 et2 ef2 hen hta hpe HRO HTA HX1 HT1 HN1 hcell5
            go_wp2_with fail
            refine HEN.out.mono ?_
            rintro e w7 ⟨rfl, hw7⟩
            subst hw7
            go_wp2_with fail
            refine HTA2.out.mono ?_
            rintro e w8 ⟨rfl, m8, rfl⟩
            go_wp2_with fail
            refine (HPE.out m8).mono ?_
            rintro e w9 ⟨rfl, hw9⟩
            subst hw9
            go_wp2
            go_roundw
            case rel =>
              obtain ⟨q, h1, h2, h3, h4⟩ := HREL.out
              exact ⟨k + 1, by omega, by go_num, q, h1.drewN m8, h2, h3, h4⟩
            case measure => simp [intOf]; omega
          · as_aux_lemma =>
            have hfull := hid (rx_full HX4.out A4 d.length c4 (by have := HRM.out; omega) (by have := HDL.out; omega))
            have hfit' : ¬ ((d.length : Int) ≤ (rm : Int)) := by omega
            have hcell5 : ∀ w5, RX w w5 R D q → w5.cell? ⟨b, o + k, none⟩ = some (.slice A4 d.length c4) := fun w5 hX1 => (hX1.be.cell (p := ⟨b, o + k, none⟩) hb).trans ((hbw.out.cell (p := ⟨b, o + k, none⟩) hb).symm.trans hcell)
            have HC5 := hid hcell5
            clear hcell5
            go_wp2_with fail
            refine hfull.out.mono ?_
            rintro e w5 ⟨rfl, hX1⟩
            have hcell5 := HC5.out w5 hX1
            have hro := fun m => rx_room (hX1.drewN m)
            have hta := fun m => rx_tail (hX1.drewN m)
            have et : q.tail = tl := HTL.out.symm
            have er : q.room = rm := HRM.out.symm
            rw [et] at hta
            rw [er] at hro
            have HRO := hid hro
            have HTA := hid hta
            have HX1 := hid hX1
            clear hfull hro hta et er hX1 HX4 hcell
            go_wp2_with fail
            go_quiet ((first | (go_at_call 33; exact Calls.quiet_of (HTA.out _)) | (go_at_call 32; exact Calls.quiet_of (HRO.out _))))
            have hfl := hid (rx_flush (HX1.out.drewN nq))
            go_wp2_with fail
            refine hfl.out.mono ?_
            rintro e w6 ⟨rfl, q2, hX2, ht2, _, hn2', hs2, hf2⟩
            have et2 : q2.tail = tl := by have := HTL.out; omega
            have ef2 : q2.fin = tl := by have := HTL.out; omega
            have hen := rx_end hX2
            have hta := rx_tail hX2
            have hpe := fun m => rx_pending (hX2.drewN m)
            rw [ef2] at hen
            rw [et2] at hta
            have hen2 := fun m => rx_end (hX2.drewN m)
            have htr := fun m => rx_trim (hX2.drewN m) tl (by have := hX2.ok.e1; omega) (by omega) (by omega)
            rw [ef2] at hen2
            have HEN := hid hen
            have HTA2 := hid hta
            have HPE := hid hpe
            have HEN2 := hid hen2
            have HTR := hid htr
            have HN2 := hid (hn2'.trans HQN.out)
            have HET := hid et2
            have HEF := hid ef2
            clear hfl hX2 ht2 hn2' hf2 et2 ef2 hen hta hpe hs2 hen2 htr HRO HTA HX1 hcell5 HC5
            go_wp2_with fail
            refine HEN.out.mono ?_
            rintro e w7 ⟨rfl, hw7⟩
            subst hw7
            go_wp2_with fail
            refine HTA2.out.mono ?_
            rintro e w8 ⟨rfl, m8, rfl⟩
            go_wp2_with fail
            refine (HPE.out m8).mono ?_
            rintro e w9 ⟨rfl, hw9⟩
            subst hw9
            go_wp2_with fail
            refine (HEN2.out m8).mono ?_
            rintro e w10 ⟨rfl, hw10⟩
            subst hw10
            go_wp2_with fail
            refine (HTR.out m8).mono ?_
            rintro e w11 ⟨rfl, q3, hX3, ht3, hr3, hn3, hs3, hf3⟩
            have hw1 : IntKind.i64.wrap ((n : Int) - 1) = (n : Int) - 1 := by rw [IntKind.wrap_i64]; omega
            have hw2 : IntKind.i64.wrap (((n : Int) - 1) * 118) = ((n : Int) - 1) * 118 := by rw [IntKind.wrap_i64]; omega
            have hw3 : IntKind.i64.wrap (((n : Int) - 1) * 118 - 117) = ((n : Int) - 1) * 118 - 117 := by rw [IntKind.wrap_i64]; omega
            have hrm := rx_room hX3
            obtain ⟨r3, hr3'⟩ : ∃ r3, r3 = q3.room := ⟨_, rfl⟩
            rw [← hr3'] at hrm
            have hge : ¬ ((r3 : Int) < ((n : Int) - 1) * 118 - 117) := by
              have h1 := HET.out
              have h2 := HN2.out
              rw [hr3] at hr3'
              omega
            have HRM3 := hid hrm
            have HREL : Hid (∃ q, RX w w11 R D q ∧ q.n = n ∧ q.tail ≤ 4000 * (k + 1) ∧ q.fin = q.tail) := hid ⟨q3, hX3, by have := HN2.out; omega, by have := HET.out; omega, by have := HET.out; have := HEF.out; omega⟩
            clear hX3 ht3 hr3 hn3 hs3 hf3 hr3' hrm HTR HEN2 HPE HTA2 HEN
            go_wp2_with fail
            refine HRM3.out.mono ?_
            rintro e w12 ⟨rfl, m12, rfl⟩
            go_wp2
            go_roundw
            case rel =>
              obtain ⟨q, h1, h2, h3, h4⟩ := HREL.out
              exact ⟨k + 1, by omega, by go_num, q, h1.drewN m12, h2, h3, h4⟩
            case measure => simp [intOf]; omega
        · as_aux_lemma =>
          by_cases hl2 : k < n0
          · have hk0' : (k : Int) < (n0 : Int) := by omega
            have hk40' : ¬ ((k : Int) < 40) := by omega
            clear hgo
            go_wp2
            go_meet
            exact ⟨q, HX.out, HQF.out⟩
          · have hk0' : ¬ ((k : Int) < (n0 : Int)) := by omega
            clear hgo
            go_wp2
            go_meet
            exact ⟨q, HX.out, HQF.out⟩
    case rest => as_aux_lemma =>
      obtain ⟨q, hX, hqf⟩ := hcut
      have hta := rx_tail hX
      have hT := hX.ok.tl.1
      obtain ⟨tl, htl⟩ : ∃ tl, tl = q.tail := ⟨_, rfl⟩
      rw [← htl] at hta hT
      have htr := fun m => rx_trim_arg (hX.drewN m) (tl + 1) (by omega)
      have HTA := hid hta
      have HTR := hid htr
      have HX := hid hX
      have hw1 : IntKind.i64.wrap ((tl : Int) + 1) = (tl : Int) + 1 := by rw [IntKind.wrap_i64]; omega
      clear hta htr hX htl hqf HS0
      go_wp2_with fail
      refine HTA.out.mono ?_
      rintro e w3 ⟨rfl, m3, rfl⟩
      go_wp2_with fail
      refine (HTR.out m3).mono ?_
      rintro e w4 ⟨rfl, hw4⟩
      subst hw4
      go_wp2_with fail
      refine (haw.out _).mono ?_
      rintro e w5 ⟨rfl, hb5⟩
      have HBE := hid ((HX.out.drewN m3).be.trans (hb5.mono (HX.out.drewN m3).be.size))
      clear hb5
      go_wp2
      go_ret
      exact ⟨rfl, HBE.out⟩
  · as_aux_lemma =>
    by_cases h2 : z < 2
    · go_enter Try.func7, Try.ntmps7
      go_wp2_with fail
      refine (haw.out _).mono ?_
      rintro e w5 ⟨rfl, hb5⟩
      go_wp2
      go_ret
      exact ⟨rfl, hb5⟩
    · have h3 : 30 < z := by omega
      clear hz
      go_enter Try.func7, Try.ntmps7
      go_wp2_with fail
      refine (haw.out _).mono ?_
      rintro e w5 ⟨rfl, hb5⟩
      go_wp2
      go_ret
      exact ⟨rfl, hb5⟩
end Go.Proofs.Ytjmcjbmnggecgaa
