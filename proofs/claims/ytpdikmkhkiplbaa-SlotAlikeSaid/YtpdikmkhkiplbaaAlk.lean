/- The walk of SlotAlike. No conditions. -/
import Derived.Test.YtpdikmkhkiplbaaPut
import Derived.Test.YtpdikmkhkiplbaaArg
namespace Go.Proofs.Ytpdikmkhkiplbaa
open Go.RowKit
set_option maxRecDepth 100000
set_option linter.unusedVariables false
set_option linter.unusedSimpArgs false

/-- two values that both are a page's bytes -/
structure AlkS (w wr : World) (v u : Value) (m : MPage) : Prop where
  be : Below w.heap.size w wr
  va : Valid m
  p : OutB w.heap.size wr v m.bytes
  q : OutB w.heap.size wr u m.bytes

set_option maxHeartbeats 6400000 in
theorem alike_any (A0 : Option Addr) (n0 c0 : Nat) (A1 : Option Addr) (n1 c1 : Nat) (w : World) (h0 : RowsAt w A0 n0) (h1 : RowsAt w A1 n1) (l0 : n0 ≤ 9223372036854775807) (l1 : n1 ≤ 9223372036854775807) :
    Calls Try.prog 4 #[.slice A0 n0 c0, .slice A1 n1 c1] w fun e w' => e = .returned (.bool true) ∧ Below w.heap.size w w' := by
  have H0 := hid h0
  have H1 := hid h1
  have hnew := hid (new_any w)
  clear h0 h1
  go_enter Try.func4, Try.ntmps4
  go_wp2_with fail
  refine hnew.out.mono ?_
  rintro e w1 ⟨v1, rfl, ho1, hb1⟩
  obtain ⟨A2, c2, rfl, HO1⟩ := ho1.split
  have HB1 := hid hb1
  have hnew2 := hid (new_any w1)
  clear ho1 hb1 hnew
  go_wp2_with fail
  refine hnew2.out.mono ?_
  rintro e w2 ⟨v2, rfl, ho2, hb2⟩
  obtain ⟨A3, c3, rfl, HO2⟩ := ho2.split
  have HS0 : Hid (AlkS w w2 (.slice A2 (MPage.bytes ⟨0, []⟩).length c2) (.slice A3 (MPage.bytes ⟨0, []⟩).length c3) ⟨0, []⟩) := hid ⟨HB1.out.trans (hb2.mono HB1.out.size), valid_new, HO1.out.below hb2, HO2.out.mono HB1.out.size⟩
  have hl1 : (MPage.bytes ⟨0, []⟩).length = 504 := valid_new.length
  rw [hl1] at HS0 ⊢
  clear ho2 hb2 hnew2 HO1 HO2
  go_wp2_with fail
  go_loopw [5, 6, 7] (fun p q i wr => ∃ (k : Nat) (m : MPage) (A2 : Option Addr) (c2 : Nat) (A3 : Option Addr) (c3 : Nat), k ≤ 20 ∧ i = .int .i64 k ∧ p = .slice A2 504 c2 ∧ q = .slice A3 504 c3 ∧ AlkS w wr (.slice A2 504 c2) (.slice A3 504 c3) m) (fun _ _ i _ => 20 - (intOf i).toNat)
  case atStart => exact ⟨0, ⟨0, []⟩, A2, c2, A3, c3, by omega, rfl, rfl, rfl, HS0.out⟩
  case round => as_aux_lemma =>
    obtain ⟨k, m, A2, c2, A3, c3, hk, rfl, rfl, rfl, hS⟩ := hrel
    have HS := hid hS
    have hm504 : m.bytes.length = 504 := hS.va.length
    clear HS0
    by_cases hgo : k < n0 ∧ k < 20
    · obtain ⟨hk0, hk20⟩ := hgo
      have hk0' : (k : Int) < (n0 : Int) := by omega
      have hk20' : (k : Int) < 20 := by omega
      obtain ⟨b, o, A4, c4, d, rfl, hb, hcell, hrd, hdc⟩ := (H0.out.below hS.be).lit hk0
      have HRD := hid hrd
      have hbw : b < w.heap.size := by
        obtain ⟨ad, _, _, _, e, hlt, _⟩ := H0.out k hk0
        injection e with e
        subst e
        exact hlt
      have hcw : w.cell? ⟨b, o + k, none⟩ = some (.slice A4 d.length c4) := by rw [← hcell]; exact (hS.be.cell (p := ⟨b, o + k, none⟩) hbw).symm
      have HCW := hid hcw
      clear hrd hcw hS
      by_cases h480 : 480 < d.length
      · have haw := hid (awake_any wr)
        go_wp2_with fail
        refine haw.out.mono ?_
        rintro e w3 ⟨rfl, hb3⟩
        have HB3 := hid (HS.out.be.trans (hb3.mono HS.out.be.size))
        clear hb3
        go_wp2
        go_ret
        exact ⟨rfl, HB3.out⟩
      · have hput := hid (put_v (c2 := c4) HS.out.p HRD.out rfl)
        have hpc := hid (put_cases HS.out.va d)
        go_wp2_with fail
        refine hput.out.mono ?_
        rintro e w3 ⟨v3, rfl, ho3, hb3⟩
        obtain ⟨A5, c5, rfl, HO3⟩ := ho3.split
        have HB3 := hid hb3
        have hc3 : w3.cell? ⟨b, o + k, none⟩ = some (.slice A4 d.length c4) := (HS.out.be.trans (hb3.mono HS.out.be.size)).cell (p := ⟨b, o + k, none⟩) hbw |>.trans HCW.out
        have hput2 := hid (put_v (c2 := c4) (HS.out.q.below hb3) (HRD.out.below hb3) rfl)
        clear ho3 hb3 hput hcell
        go_wp2_with fail
        refine hput2.out.mono ?_
        rintro e w4 ⟨v4, rfl, ho4, hb4⟩
        obtain ⟨A6, c6, rfl, HO4⟩ := ho4.split
        have HB4 := hid hb4
        have HBE4 := hid (HS.out.be.trans ((HB3.out.trans (hb4.mono HB3.out.size)).mono HS.out.be.size))
        clear ho4 hb4 hput2 hc3
        have s3 := str_v (HO3.out.below HB4.out)
        have s4 := str_v HO4.out
        rcases hpc.out with ⟨e, he, hpe, _⟩ | ⟨hpe, hv, _, _⟩
        · rw [hpe] at s3 s4 HO3 HO4 ⊢
          have HS4 := hid (AlkS.mk HBE4.out HS.out.va ((HS.out.p.below HB3.out).below HB4.out) ((HS.out.q.below HB3.out).below HB4.out))
          have hne : (e == 0) = false := by simpa using he
          clear hpc hpe
          go_wp2
          go_roundw
          case rel => exact ⟨k + 1, m, A2, c2, A3, c3, by omega, by go_num, rfl, rfl, HS4.out⟩
          case measure => simp [intOf]; omega
        · rw [hpe] at s3 s4 HO3 HO4 ⊢
          have e504 : (obytes (some (m.put d))).length = 504 := hv.length
          rw [e504] at s3 s4 HO3 HO4 ⊢
          have HS4 : Hid (AlkS w w4 (.slice A5 504 c5) (.slice A6 504 c6) (m.put d)) := hid ⟨HBE4.out, hv, (HO3.out.below HB4.out).mono HS.out.be.size, HO4.out.mono (Nat.le_trans HS.out.be.size HB3.out.size)⟩
          clear hpc hpe
          by_cases hk1 : k < n1
          · have hk1' : (k : Int) < (n1 : Int) := by omega
            obtain ⟨b2, o2, A7, c7, d2, rfl, hb2, hcell2, hrd2, hdc2⟩ := (H1.out.below HBE4.out).lit hk1
            have hput3 := hid (put_v (c2 := c7) HS4.out.q hrd2 rfl)
            have hpc2 := hid (put_cases hv d2)
            clear hrd2
            go_wp2_with fail
            refine hput3.out.mono ?_
            rintro e w5 ⟨v5, rfl, ho5, hb5⟩
            obtain ⟨A8, c8, rfl, HO5⟩ := ho5.split
            have HB5 := hid hb5
            have HS5 : Hid (AlkS w w5 (.slice A5 504 c5) (.slice A6 504 c6) (m.put d)) := hid ⟨HBE4.out.trans (hb5.mono HBE4.out.size), hv, HS4.out.p.below hb5, HS4.out.q.below hb5⟩
            clear ho5 hb5 hput3 hcell2 s3 s4
            rcases hpc2.out with ⟨e, he, hpe2, _⟩ | ⟨hpe2, hv2, _, _⟩
            · rw [hpe2]
              have hne : (e == 0) = false := by simpa using he
              clear hpc2 hpe2
              go_wp2
              go_roundw
              case rel => exact ⟨k + 1, m.put d, A5, c5, A6, c6, by omega, by go_num, rfl, rfl, HS5.out⟩
              case measure => simp [intOf]; omega
            · rw [hpe2] at HO5 ⊢
              have e505 : (obytes (some ((m.put d).put d2))).length = 504 := hv2.length
              rw [e505] at HO5 ⊢
              have hdel := hid (del_v (bs := ((m.put d).put d2).bytes) HO5.out (spot (m.put d).l))
              obtain ⟨hd1, hd2⟩ := del_put hv d2 hv2
              rw [hd1, hd2] at hdel
              clear hpc2 hpe2 hd1 hd2
              go_wp2_with fail
              refine hdel.out.mono ?_
              rintro e w6 ⟨v6, rfl, ho6, hb6⟩
              obtain ⟨A9, c9, rfl, HO6⟩ := ho6.split
              have e506 : (m.put d).bytes.length = 504 := hv.length
              rw [e506] at HO6 ⊢
              have HS6 : Hid (AlkS w w6 (.slice A5 504 c5) (.slice A9 504 c9) (m.put d)) := hid ⟨HS5.out.be.trans (hb6.mono HS5.out.be.size), hv, HS5.out.p.below hb6, HO6.out.mono HS5.out.be.size⟩
              have s5 := str_v HS6.out.p
              have s6 := str_v HS6.out.q
              clear ho6 hb6 hdel
              go_wp2
              go_roundw
              case rel => exact ⟨k + 1, m.put d, A5, c5, A9, c9, by omega, by go_num, rfl, rfl, HS6.out⟩
              case measure => simp [intOf]; omega
          · have hk1' : (n1 : Int) ≤ (k : Int) := by omega
            go_wp2
            go_roundw
            case rel => exact ⟨k + 1, m.put d, A5, c5, A6, c6, by omega, by go_num, rfl, rfl, HS4.out⟩
            case measure => simp [intOf]; omega
    · have hdec : (decide ((k : Int) < (n0 : Int)) && decide ((k : Int) < 20)) = false := by
        simp only [Bool.and_eq_false_iff, decide_eq_false_iff_not]
        omega
      have s1 := str_v HS.out.p
      have s2 := str_v HS.out.q
      have haw := hid (awake_any wr)
      clear hS
      by_cases hk0 : k < n0
      · have hk0' : (k : Int) < (n0 : Int) := by omega
        have hk20' : ¬ ((k : Int) < 20) := by omega
        clear hdec hgo
        go_wp2_with fail
        refine haw.out.mono ?_
        rintro e w3 ⟨rfl, hb3⟩
        have HB3 := hid (HS.out.be.trans (hb3.mono HS.out.be.size))
        clear hb3
        go_wp2
        go_ret
        exact ⟨rfl, HB3.out⟩
      · have hk0' : ¬ ((k : Int) < (n0 : Int)) := by omega
        clear hdec hgo
        go_wp2_with fail
        refine haw.out.mono ?_
        rintro e w3 ⟨rfl, hb3⟩
        have HB3 := hid (HS.out.be.trans (hb3.mono HS.out.be.size))
        clear hb3
        go_wp2
        go_ret
        exact ⟨rfl, HB3.out⟩
end Go.Proofs.Ytpdikmkhkiplbaa
