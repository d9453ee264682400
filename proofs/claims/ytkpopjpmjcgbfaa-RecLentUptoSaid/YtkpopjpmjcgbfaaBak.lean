/- RecBack: the walk of the law. Conditions: the bulk of what comes in. -/
import Derived.Test.YtkpopjpmjcgbfaaDecA
import Derived.Test.YtkpopjpmjcgbfaaBad
namespace Go.Proofs.Ytkpopjpmjcgbfaa
open Go.RowKit
set_option maxRecDepth 100000
set_option linter.unusedVariables false
set_option linter.unusedSimpArgs false

theorem below_call {B : Nat} {w wr wd w' : World} (h : Below B w wr) (hq : Below wd.heap.size wd w') (h1 : wd.heap = wr.heap) (h2 : wd.os = wr.os) (h3 : wd.tape = wr.tape) (h4 : wd.output = wr.output) (hB : B ≤ wr.heap.size) : Below B w w' := by
  refine h.trans ⟨hq.os.trans h2, hq.tape.trans h3, hq.output.trans h4, by rw [← h1]; exact hq.size, fun k hk => ?_⟩
  have := hq.block k (by rw [h1]; omega)
  rw [this, h1]

set_option maxHeartbeats 6400000 in
theorem back_any (r : MRec) (BA : Option Addr) (bc : Nat) (AA : Option Addr) (ac : Nat) (TA : Option Addr) (tc : Nat) (DA : Option Addr) (dc : Nat) (XA : Option Addr) (xc : Nat) (more : List UInt8) (w : World) (h : RecMem w r BA AA TA DA) (hx : Rd w 1 XA more.length (u8s more)) (hs : r.size + more.length ≤ 30000000) :
    Calls Try.prog 6 #[recVal r BA bc AA ac TA tc DA dc, .slice XA more.length xc] w fun e w' => e = .returned (.bool true) ∧ Below w.heap.size w w' := by
  obtain ⟨i0, hi, hz0, hz1, hz2⟩ := info_parts info5
  have H := hid h
  have HX := hid hx
  clear h hx
  have hnt : r.txns.length ≤ 5000000 := by unfold MRec.size at hs; omega
  have hnd : r.dirty.length ≤ 5000000 := by unfold MRec.size at hs; omega
  have hsr : 96 ≤ r.size := by unfold MRec.size; omega
  have hbox := Blk.new w 28 #[.int .i64 r.kind, .int .i64 r.txn, .int .i64 r.prev, .int .i64 r.next, .int .i64 r.page, .int .i64 r.off, .slice BA r.before.length bc, .slice AA r.after.length ac, .slice TA r.txns.length tc, .slice DA r.dirty.length dc, .int .i64 r.count]
  have HB := hid hbox
  have HM1 := hid (H.out.below ((Below.refl w.heap.size w).alloc (Nat.le_refl _) (.cells #[.int .i64 r.kind, .int .i64 r.txn, .int .i64 r.prev, .int .i64 r.next, .int .i64 r.page, .int .i64 r.off, .slice BA r.before.length bc, .slice AA r.after.length ac, .slice TA r.txns.length tc, .slice DA r.dirty.length dc, .int .i64 r.count] 28)))
  clear hbox
  have hbad := hid (bad_any r BA bc AA ac TA tc DA dc)
  have henc := hid (encode_any r BA bc AA ac TA tc DA dc)
  have hsize := hid (size_any r BA bc AA ac TA tc DA dc)
  unfold recVal at *
  go_enter Try.func6, Try.ntmps6
  go_wp2_with fail
  refine (hbad.out _ HM1.out (by omega)).mono ?_
  rintro e w1 ⟨rfl, hb1⟩
  have HE1 := hid (below_call ((Below.refl w.heap.size w).alloc (Nat.le_refl _) (.cells #[.int .i64 r.kind, .int .i64 r.txn, .int .i64 r.prev, .int .i64 r.next, .int .i64 r.page, .int .i64 r.off, .slice BA r.before.length bc, .slice AA r.after.length ac, .slice TA r.txns.length tc, .slice DA r.dirty.length dc, .int .i64 r.count] 28)) hb1 rfl rfl rfl rfl (by simp))
  have HB1 := hid (Blk.call HB.out hb1 rfl)
  clear hb1 HB HM1
  by_cases hbd : badR r = true
  · rw [hbd]
    go_wp2_with fail
    refine (awake_any _).mono ?_
    rintro e w2 ⟨rfl, hb2⟩
    have HE2 := hid (below_call HE1.out hb2 rfl rfl rfl rfl HE1.out.size)
    clear hb2
    go_wp2
    go_ret
    exact ⟨rfl, HE2.out⟩
  · have hbd' : badR r = false := by simpa using hbd
    have hgood := hid (good_of_bad r hbd' (by omega))
    rw [hbd']
    clear hbd hbd'
    obtain ⟨x0, x1, x2, x3, x4, x5, x6, x7, x8, x9, x10⟩ := box11 HB1.out
    go_wp2_with fail
    refine (henc.out _ (H.out.below HE1.out) (by omega)).mono ?_
    rintro e w2 ⟨A5, N5, c5, rfl, hbf⟩
    have hN5 : N5 = r.size := by rw [hbf.len, length_enc]
    subst hN5
    have HE2 := hid (below_call HE1.out hbf.be rfl rfl rfl rfl HE1.out.size)
    have HB2 := hid (HB1.out.below hbf.be HB1.out.lt)
    have HF2 := hid hbf.rd
    have hf5 := hid (hbf.own.lt)
    have hcap5 := own_cap hbf.own
    clear hbf x0 x1 x2 x3 x4 x5 x6 x7 x8 x9 x10 HB1
    have HL := hid (World.ownsRow_lit (base := w2.heap.size) (e := 5) (size := 1) w2 #[] 0 (Nat.le_refl _) (by omega) rfl)
    have HFL := hid (HF2.out.keep (w' := w2.alloc (.cells #[] 5)) (by simp) fun _ _ h => Below.heap_alloc _ _ _ h)
    go_wp2_with (at_builtin; refine wpList_append_any _ rfl (.tmp 20) (.tmp 21) 23 rfl w2.heap.size 5 i0 _ 1 1 Try.underlying23 hi hz0 hz1 hz2 rfl (by omega) _ 0 [] rfl HL.out A5 r.size c5 _ rfl HFL.out (u8s_one _) (by unfold maxLen; omega) (by omega) (by simp) ?_)
    intro v3 w3 hown3' hg3 hat3
    have hown3 : w3.ownsRow w2.heap.size 5 1 v3 r.size (u8s r.enc) := by simpa using hown3'
    obtain ⟨A3, c3, rfl, _⟩ := own_form hown3
    have hb3 : Below w2.heap.size w2 w3 := ((Below.refl _ _).alloc (Nat.le_refl _) (.cells #[] 5)).grown hg3 (by simp) (fun k hk => by simp [Value.ownBlock] at hk; omega)
    have HO3 := hid hown3
    have HB3 := hid hb3
    have HX3 := hid ((HX.out.below HE2.out).below hb3)
    clear hown3 hown3' hg3 hat3 hb3 HL HFL
    go_wp2_with (at_builtin; refine wpList_append_any _ rfl (.tmp 22) (.tmp 23) 23 rfl w2.heap.size 5 i0 _ 1 1 Try.underlying23 hi hz0 hz1 hz2 rfl (by omega) _ r.size _ rfl HO3.out XA more.length xc _ rfl HX3.out (u8s_one _) (by unfold maxLen; omega) (by omega) HB3.out.size ?_)
    intro v4 w4 hown4' hg4 hat4
    have hown4 : w4.ownsRow w2.heap.size 5 1 v4 (r.size + more.length) (u8s (r.enc ++ more)) := by rw [u8s_append]; exact hown4'
    obtain ⟨A4, c4, rfl, _⟩ := own_form hown4
    have HB4 := hid (HB3.out.grown hg4 HB3.out.size (fun k hk => (HO3.out.lt k hk).1))
    have HO4 := hid hown4
    have hcap4 := own_cap hown4
    clear hown4 hown4' hg4 hat4 HO3 HB3 HX3
    have hdec := hid (dec_enc r hgood.out more)
    go_wp2_with fail
    refine (decode_any A4 _ c4 (r.enc ++ more) _ (Rd.of_own HO4.out) (by rw [List.length_append, length_enc]) hcap4 (by rw [List.length_append, length_enc]; omega) (fun ad e => (HO4.out.lt ad.block (by rw [e]; rfl)).2)).mono ?_
    rintro e w5 ⟨B2, b2, A2, a2, T2, t2, D2, d2, rfl, hnew, hb5⟩
    have e1 : decR (r.enc ++ more) = r := by rw [decR, hdec.out]
    have e2 : decK (r.enc ++ more) = r.size := by rw [decK, hdec.out]
    have e3 : decB (r.enc ++ more) = true := by rw [decB, hdec.out]; rfl
    rw [e1] at hnew
    rw [e1, e2, e3]
    have HB5 := hid (HB4.out.trans (hb5.mono HB4.out.size))
    have HN5 := hid hnew
    clear hnew hb5 e1 e2 e3 HO4 HB4
    have HB25 := hid (HB2.out.below HB5.out HB2.out.lt)
    have hv2 : recVal r B2 b2 A2 a2 T2 t2 D2 d2 = .agg #[.int .i64 r.kind, .int .i64 r.txn, .int .i64 r.prev, .int .i64 r.next, .int .i64 r.page, .int .i64 r.off, .slice B2 r.before.length b2, .slice A2 r.after.length a2, .slice T2 r.txns.length t2, .slice D2 r.dirty.length d2, .int .i64 r.count] := rfl
    rw [hv2]
    have HC5 := hid (HB25.out.alloc (.cells #[.int .i64 r.kind, .int .i64 r.txn, .int .i64 r.prev, .int .i64 r.next, .int .i64 r.page, .int .i64 r.off, .slice B2 r.before.length b2, .slice A2 r.after.length a2, .slice T2 r.txns.length t2, .slice D2 r.dirty.length d2, .int .i64 r.count] 28))
    have HD5 := hid (Blk.new w5 28 #[.int .i64 r.kind, .int .i64 r.txn, .int .i64 r.prev, .int .i64 r.next, .int .i64 r.page, .int .i64 r.off, .slice B2 r.before.length b2, .slice A2 r.after.length a2, .slice T2 r.txns.length t2, .slice D2 r.dirty.length d2, .int .i64 r.count])
    obtain ⟨y0, y1, y2, y3, y4, y5, y6, y7, y8, y9, y10⟩ := box11 HC5.out
    go_wp2_with fail
    refine (hsize.out _ (by omega)).mono ?_
    rintro e w7 ⟨rfl, hb7⟩
    have HB7 := hid (below_call ((Below.refl w5.heap.size w5).alloc (Nat.le_refl _) (.cells #[.int .i64 r.kind, .int .i64 r.txn, .int .i64 r.prev, .int .i64 r.next, .int .i64 r.page, .int .i64 r.off, .slice B2 r.before.length b2, .slice A2 r.after.length a2, .slice T2 r.txns.length t2, .slice D2 r.dirty.length d2, .int .i64 r.count] 28)) hb7 rfl rfl rfl rfl (by simp))
    have HC7 := hid (Blk.call HC5.out hb7 rfl)
    have HD7 := hid (Blk.call HD5.out hb7 rfl)
    clear y0 y1 y2 y3 y4 y5 y6 y7 y8 y9 y10 hb7 HC5 HD5
    obtain ⟨y0, y1, y2, y3, y4, y5, y6, y7, y8, y9, y10⟩ := box11 HC7.out
    obtain ⟨⟨z0, z1, z2, z3, z4, z5, z6, z7, z8, z9, z10⟩, _⟩ := blk11 HD7.out
    have HM7 := hid (((H.out.below HE2.out).below HB5.out).below HB7.out)
    have HN7 := hid (HN5.out.mem.below HB7.out)
    have s1 := run_str _ _ _ bc _ HM7.out.b
    have s2 := run_str _ _ _ ac _ HM7.out.a
    have s3 := run_str _ _ _ b2 _ HN7.out.b
    have s4 := run_str _ _ _ a2 _ HN7.out.a
    go_wp2_with fail
    have hlt7 : w7.heap.size ≤ w7.heap.size := Nat.le_refl _
    have HF7 := hid ((HF2.out.below HB5.out).below HB7.out)
    have HA5 := hid (show ∀ ad, A5 = some ad → ad.block < w7.heap.size from fun ad e => by have := (hf5.out ad.block (by rw [e]; rfl)).2; have := HB5.out.size; have := HB7.out.size; omega)
    have HE7 := hid (((HE2.out.trans (HB5.out.mono HE2.out.size)).trans (HB7.out.mono (by have := HE2.out.size; have := HB5.out.size; omega))))
    clear s1 s2 s3 s4 y0 y1 y2 y3 y4 y5 y6 y7 y8 y9 y10 z0 z1 z2 z3 z4 z5 z6 z7 z8 z9 z10 hlt7 HF2 hf5 HB25 HN5 HB2 HE2 HX
    go_loopw [9] (fun i wx => ∃ k : Nat, k ≤ r.txns.length ∧ i = .int .i64 k ∧ Below w7.heap.size w7 wx) (fun i _ => r.txns.length - (intOf i).toNat)
    case atStart => exact ⟨0, by omega, rfl, Below.refl _ _⟩
    case round =>
      obtain ⟨k, hk, rfl, hbx⟩ := hrel
      have HBx := hid hbx
      have y8 := (HC7.out.below hbx HC7.out.lt).cell_ 8 rfl
      have z8 := (HD7.out.below hbx HD7.out.lt).cell_ 8 rfl
      have y9 := (HC7.out.below hbx HC7.out.lt).cell_ 9 rfl
      clear hbx
      by_cases hlt : k < r.txns.length
      · have hlt' : (k : Int) < (r.txns.length : Int) := by omega
        obtain ⟨b1, o1, rfl, hl1, p0, p1, p2⟩ := (HM7.out.below HBx.out).txn k hlt
        obtain ⟨b2', o2, rfl, hl2, q0, q1, q2⟩ := (HN7.out.below HBx.out).txn k hlt
        generalize r.txns[k].1 = u1 at *
        generalize r.txns[k].2.1 = u2 at *
        generalize r.txns[k].2.2 = u3 at *
        go_wp2_with fail
        go_region
        all_goals
          go_wp2
          go_roundw
          case rel => exact ⟨k + 1, by omega, by go_num, HBx.out.drew⟩
          case measure => simp [intOf]; omega
      · have hlt' : decide ((k : Int) < (r.txns.length : Int)) = false := by simp; omega
        go_wp2_with fail
        go_loopw [10] (fun i wx => ∃ k : Nat, k ≤ r.dirty.length ∧ i = .int .i64 k ∧ Below w7.heap.size w7 wx) (fun i _ => r.dirty.length - (intOf i).toNat)
        case atStart => exact ⟨0, by omega, rfl, HBx.out⟩
        case round =>
          obtain ⟨k2, hk2, rfl, hbx2⟩ := hrel
          clear HBx y8 z8 y9
          have HBx := hid hbx2
          have y9 := (HC7.out.below hbx2 HC7.out.lt).cell_ 9 rfl
          have z9 := (HD7.out.below hbx2 HD7.out.lt).cell_ 9 rfl
          clear hbx2
          by_cases hlt2 : k2 < r.dirty.length
          · have hlt2' : (k2 : Int) < (r.dirty.length : Int) := by omega
            obtain ⟨b1, o1, rfl, hl1, p0, p1⟩ := (HM7.out.below HBx.out).dir k2 hlt2
            obtain ⟨b2', o2, rfl, hl2, q0, q1⟩ := (HN7.out.below HBx.out).dir k2 hlt2
            generalize r.dirty[k2].1 = u1 at *
            generalize r.dirty[k2].2 = u2 at *
            go_wp2_with fail
            go_region
            all_goals
              go_wp2
              go_roundw
              case rel => exact ⟨k2 + 1, by omega, by go_num, HBx.out.drew⟩
              case measure => simp [intOf]; omega
          · have hlt2' : decide ((k2 : Int) < (r.dirty.length : Int)) = false := by simp; omega
            have hle : r.enc.length = r.size := length_enc r
            obtain ⟨hsl, hrs⟩ := sl_to (HF7.out.below HBx.out) (r.size - 1) ((r.size : Int) - 1) (by omega) (by omega) hcap5
            have e1 : (u8s r.enc).take (r.size - 1) = u8s (r.enc.take (r.size - 1)) := by simp [u8s, List.map_take]
            rw [e1] at hrs
            have Hrs := hid hrs
            have hle' := hid hle
            have hdec2 := hid (dec_short r hgood.out.sz (r.size - 1) (by omega))
            clear hrs e1 hle
            go_wp2_with fail
            refine (decode_any A5 (r.size - 1) c5 (r.enc.take (r.size - 1)) _ Hrs.out (by rw [List.length_take, hle'.out]; omega) (by omega) (by rw [List.length_take, hle'.out]; omega) (fun ad e => Nat.lt_of_lt_of_le (HA5.out ad e) HBx.out.size)).mono ?_
            rintro e w8 ⟨B3, b3, A8, a3, T3, t3, D3, d3, rfl, hnew, hb8⟩
            have e1 : decR (r.enc.take (r.size - 1)) = rec0 := by rw [decR, hdec2.out]
            have e2 : decK (r.enc.take (r.size - 1)) = 0 := by rw [decK, hdec2.out]
            have e3 : decB (r.enc.take (r.size - 1)) = false := by rw [decB, hdec2.out]; rfl
            rw [e1, e2, e3]
            have hv3 : recVal rec0 B3 b3 A8 a3 T3 t3 D3 d3 = .agg #[.int .i64 0, .int .i64 0, .int .i64 0, .int .i64 0, .int .i64 0, .int .i64 0, .slice B3 0 b3, .slice A8 0 a3, .slice T3 0 t3, .slice D3 0 d3, .int .i64 0] := rfl
            rw [hv3]
            have HE8 := hid ((HE7.out.trans (HBx.out.mono HE7.out.size)).trans (hb8.mono (by have := HE7.out.size; have := HBx.out.size; omega)))
            clear hnew hb8 e1 e2 e3
            go_wp2_with fail
            refine (awake_any _).mono ?_
            rintro e w9 ⟨rfl, hb9⟩
            have HE9 := hid (below_call (HE8.out.alloc HE8.out.size _) hb9 rfl rfl rfl rfl (by have := HE8.out.size; simp; omega))
            clear hb9
            go_wp2
            go_ret
            exact ⟨rfl, HE9.out⟩
end Go.Proofs.Ytkpopjpmjcgbfaa
