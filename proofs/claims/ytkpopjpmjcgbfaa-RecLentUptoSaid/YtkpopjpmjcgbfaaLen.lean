/- RecLent: the walk of the law. Conditions: the bulk of what comes in. -/
import Derived.Test.YtkpopjpmjcgbfaaCds
import Derived.Test.YtkpopjpmjcgbfaaArg
namespace Go.Proofs.Ytkpopjpmjcgbfaa
open Go.RowKit
set_option maxRecDepth 100000
set_option linter.unusedVariables false
set_option linter.unusedSimpArgs false

theorem RecNew.chg {base : Nat} {w w' : World} {r : MRec} {BA AA TA DA : Option Addr} {S : Nat → Prop} (h : RecNew base w r BA AA TA DA) (hc : Chg S w w') (hS : ∀ i, S i → i < base) : RecNew base w' r BA AA TA DA := by
  refine ⟨h.nb.chg hc ?_, h.na.chg hc ?_, h.nt.chg hc ?_, h.nd.chg hc ?_⟩
  · rintro ad e hs; obtain ⟨g, cs, rfl, hb, _⟩ := h.nb.at_ ad e; have := hS _ hs; simp at this; omega
  · rintro ad e hs; obtain ⟨g, cs, rfl, hb, _⟩ := h.na.at_ ad e; have := hS _ hs; simp at this; omega
  · rintro ad e hs; obtain ⟨g, cs, rfl, hb, _⟩ := h.nt.at_ ad e; have := hS _ hs; simp at this; omega
  · rintro ad e hs; obtain ⟨g, cs, rfl, hb, _⟩ := h.nd.at_ ad e; have := hS _ hs; simp at this; omega
theorem RecNew.below {base : Nat} {w w' : World} {r : MRec} {BA AA TA DA : Option Addr} (h : RecNew base w r BA AA TA DA) (hb : Below w.heap.size w w') : RecNew base w' r BA AA TA DA := ⟨h.nb.below hb, h.na.below hb, h.nt.below hb, h.nd.below hb⟩
theorem NewRow.cs {base size n : Nat} {w : World} {t : TypeId} {A : Option Addr} {xs : List Value} (h : NewRow base w t size A n xs) (hn : 0 < n) : ∃ (g : Nat) (cs : Array Value), A = some ⟨g, 0, none⟩ ∧ base ≤ g ∧ g < w.heap.size ∧ Blk w g t cs ∧ ∀ (j : Nat) (u : Value), xs[j]? = some u → cs[j]? = some u := by
  obtain ⟨ad, rfl, hlt, hc⟩ := h.rd.2 hn
  obtain ⟨g, cs, rfl, hb, hk⟩ := h.at_ ad rfl
  refine ⟨g, cs, rfl, hb, hk.lt, hk, fun j u hu => ?_⟩
  have := hc j u hu
  rw [Addr.add_lit, Nat.zero_add, hk.cell] at this
  exact this

set_option maxHeartbeats 6400000 in
theorem lent_any (r : MRec) (XA : Option Addr) (xb : Nat) (XB : Option Addr) (xa : Nat) (XT : Option Addr) (xt : Nat) (XD : Option Addr) (xd : Nat) (w : World) (h : RecMem w r XA XB XT XD) (hs : r.size ≤ 30000000) :
    Calls Try.prog 7 #[recVal r XA xb XB xa XT xt XD xd] w fun e w' => e = .returned (.bool true) ∧ Below w.heap.size w w' := by
  obtain ⟨i0, hi, hz0, hz1, hz2⟩ := info_parts info5
  have HM := hid h
  have hsr : 96 ≤ r.size := by unfold MRec.size; omega
  have hE : Below w.heap.size w (w.alloc (.cells #[.int .i64 r.kind, .int .i64 r.txn, .int .i64 r.prev, .int .i64 r.next, .int .i64 r.page, .int .i64 r.off, .slice XA r.before.length xb, .slice XB r.after.length xa, .slice XT r.txns.length xt, .slice XD r.dirty.length xd, .int .i64 r.count] 28)) := (Below.refl _ w).alloc (Nat.le_refl _) _
  have HEa := hid hE
  have henc := hid (encode_any r XA xb XB xa XT xt XD xd)
  clear h hE
  unfold recVal at *
  go_enter Try.func7, Try.ntmps7
  go_wp2_with fail
  refine (henc.out _ (HM.out.below HEa.out) (by omega)).mono ?_
  rintro e w1 ⟨A3, N3, c3, rfl, hbf⟩
  have hN3 : N3 = r.size := by rw [hbf.len, length_enc]
  subst hN3
  have HE1 := hid (below_call HEa.out hbf.be rfl rfl rfl rfl HEa.out.size)
  have HF1 := hid hbf.rd
  have hcap3 := own_cap hbf.own
  have HA3 := hid (show ∀ ad, A3 = some ad → ad.block < w1.heap.size from fun ad e => (hbf.own.lt ad.block (by rw [e]; rfl)).2)
  clear hbf HEa
  have HL := hid (World.ownsRow_lit (base := w1.heap.size) (e := 5) (size := 1) w1 #[] 0 (Nat.le_refl _) (by omega) rfl)
  have HFL := hid (HF1.out.keep (w' := w1.alloc (.cells #[] 5)) (by simp) fun _ _ h => Below.heap_alloc _ _ _ h)
  go_wp2_with (at_builtin; refine wpList_append_any _ rfl (.tmp 17) (.tmp 18) 23 rfl w1.heap.size 5 i0 _ 1 1 Try.underlying23 hi hz0 hz1 hz2 rfl (by omega) _ 0 [] rfl HL.out A3 r.size c3 _ rfl HFL.out (u8s_one _) (by unfold maxLen; omega) (by omega) (by simp) ?_)
  intro v2 w2 hown2' hg2 hat2
  have hown2 : w2.ownsRow w1.heap.size 5 1 v2 r.size (u8s r.enc) := by simpa using hown2'
  obtain ⟨A2, c2, rfl, _⟩ := own_form hown2
  have hb2 : Below w1.heap.size w1 w2 := ((Below.refl _ _).alloc (Nat.le_refl _) (.cells #[] 5)).grown hg2 (by simp) (fun k hk => by simp [Value.ownBlock] at hk; omega)
  have HO2 := hid (hown2.alloc (.cells #[.int .u8 77] 5))
  have HB2 := hid hb2
  have hone := hid (Rd.of_blk (Blk.new w2 5 #[.int .u8 77]) (n := 1) (xs := u8s [77]) rfl)
  have h1c := hid (u8s_one [77])
  have hszb : w1.heap.size ≤ (w2.alloc (.cells #[.int .u8 77] 5)).heap.size := by have := hb2.size; simp; omega
  clear hown2 hown2' hg2 hat2 hb2 HL HFL
  go_wp2_with (at_builtin; refine wpList_append_any _ rfl (.tmp 19) (.tmp 20) 23 rfl w1.heap.size 5 i0 _ 1 1 Try.underlying23 hi hz0 hz1 hz2 rfl (by omega) _ r.size _ rfl HO2.out _ 1 1 _ rfl hone.out h1c.out (by unfold maxLen; omega) (by omega) hszb ?_)
  intro v3 w3 hown3' hg3 hat3
  have hown3 : w3.ownsRow w1.heap.size 5 1 v3 (r.size + 1) (u8s (r.enc ++ [77])) := by rw [u8s_append]; exact hown3'
  obtain ⟨A4, c4, rfl, _⟩ := own_form hown3
  have HB3 := hid ((HB2.out.alloc HB2.out.size (.cells #[.int .u8 77] 5)).grown hg3 hszb (fun k hk => (HO2.out.lt k hk).1))
  have hcap4 := own_cap hown3
  obtain ⟨g4, cs4, hA4, hg4a, hg4b, hblk4, hcs4⟩ := (NewRow.of_own hown3).cs (by omega)
  subst hA4
  have HK3 := hid hblk4
  have h77 := hid (hcs4 r.size (.int .u8 77) (by simp [u8s, length_enc]))
  have HO3 := hid (Rd.of_own hown3)
  have Hg4 := hid (And.intro hg4a hg4b)
  clear hown3 hown3' hg3 hat3 HO2 HB2 hone h1c hszb hblk4 hcs4 hg4a hg4b
  obtain ⟨hsl, hrs⟩ := sl_to HO3.out r.size r.size rfl (by omega) hcap4
  have e1 : (u8s (r.enc ++ [77])).take r.size = u8s r.enc := by
    rw [u8s_append, List.take_append_of_le_length (by rw [length_u8s, length_enc]; exact Nat.le_refl _), List.take_of_length_le (by rw [length_u8s, length_enc]; exact Nat.le_refl _)]
  rw [e1] at hrs
  have Hrs := hid hrs
  have hqs := hid (decR_size r.enc)
  have hle := hid (length_enc r)
  clear e1 hrs
  go_wp2_with fail
  refine (decode_any _ r.size c4 r.enc _ Hrs.out hle.out.symm (by omega) (by rw [hle.out]; omega) (fun ad e => by injection e with e; subst e; exact Hg4.out.2)).mono ?_
  rintro e w4 ⟨YA, yb, YB, ya, YT, yt, YD, yd, rfl, hn1, hb4⟩
  generalize hq : decR r.enc = q at *
  generalize hqk : decK r.enc = qk at *
  generalize hqo : decB r.enc = qo at *
  have Hq := hid hq
  have Hqk := hid hqk
  have Hqo := hid hqo
  have HN1 := hid hn1
  have HB4 := hid hb4
  have hv1 : recVal q YA yb YB ya YT yt YD yd = .agg #[.int .i64 q.kind, .int .i64 q.txn, .int .i64 q.prev, .int .i64 q.next, .int .i64 q.page, .int .i64 q.off, .slice YA q.before.length yb, .slice YB q.after.length ya, .slice YT q.txns.length yt, .slice YD q.dirty.length yd, .int .i64 q.count] := rfl
  rw [hv1]
  have Hrs4 := hid ((Hrs.out.below hb4).below ((Below.refl w4.heap.size w4).alloc (Nat.le_refl _) (.cells #[.int .i64 q.kind, .int .i64 q.txn, .int .i64 q.prev, .int .i64 q.next, .int .i64 q.page, .int .i64 q.off, .slice YA q.before.length yb, .slice YB q.after.length ya, .slice YT q.txns.length yt, .slice YD q.dirty.length yd, .int .i64 q.count] 28)))
  clear hn1 hb4 hq hqk hqo
  go_wp2_with fail
  refine (decode_any _ r.size c4 r.enc _ Hrs4.out hle.out.symm (by omega) (by rw [hle.out]; omega) (fun ad e => by injection e with e; subst e; have := Hg4.out.2; have := HB4.out.size; simp; omega)).mono ?_
  rintro e w5 ⟨UA, ub, UB, ua, UT, ut, UD, ud, rfl, hn2, hb5⟩
  rw [Hq.out] at hn2
  rw [Hq.out, Hqk.out, Hqo.out]
  have hv2 : recVal q UA ub UB ua UT ut UD ud = .agg #[.int .i64 q.kind, .int .i64 q.txn, .int .i64 q.prev, .int .i64 q.next, .int .i64 q.page, .int .i64 q.off, .slice UA q.before.length ub, .slice UB q.after.length ua, .slice UT q.txns.length ut, .slice UD q.dirty.length ud, .int .i64 q.count] := rfl
  rw [hv2]
  have hB45 : Below w4.heap.size w4 (w5.alloc (.cells #[.int .i64 q.kind, .int .i64 q.txn, .int .i64 q.prev, .int .i64 q.next, .int .i64 q.page, .int .i64 q.off, .slice UA q.before.length ub, .slice UB q.after.length ua, .slice UT q.txns.length ut, .slice UD q.dirty.length ud, .int .i64 q.count] 28)) := (((Below.refl w4.heap.size w4).alloc (Nat.le_refl _) (.cells #[.int .i64 q.kind, .int .i64 q.txn, .int .i64 q.prev, .int .i64 q.next, .int .i64 q.page, .int .i64 q.off, .slice YA q.before.length yb, .slice YB q.after.length ya, .slice YT q.txns.length yt, .slice YD q.dirty.length yd, .int .i64 q.count] 28)).trans (hb5.mono (by simp))).alloc (by have := hb5.size; simp at this; omega) _
  have H5 := hid ((((Blk.new w4 28 #[.int .i64 q.kind, .int .i64 q.txn, .int .i64 q.prev, .int .i64 q.next, .int .i64 q.page, .int .i64 q.off, .slice YA q.before.length yb, .slice YB q.after.length ya, .slice YT q.txns.length yt, .slice YD q.dirty.length yd, .int .i64 q.count]).below hb5 (Blk.new w4 28 #[.int .i64 q.kind, .int .i64 q.txn, .int .i64 q.prev, .int .i64 q.next, .int .i64 q.page, .int .i64 q.off, .slice YA q.before.length yb, .slice YB q.after.length ya, .slice YT q.txns.length yt, .slice YD q.dirty.length yd, .int .i64 q.count]).lt)).alloc (.cells #[.int .i64 q.kind, .int .i64 q.txn, .int .i64 q.prev, .int .i64 q.next, .int .i64 q.page, .int .i64 q.off, .slice UA q.before.length ub, .slice UB q.after.length ua, .slice UT q.txns.length ut, .slice UD q.dirty.length ud, .int .i64 q.count] 28))
  have H8 := hid (Blk.new w5 28 #[.int .i64 q.kind, .int .i64 q.txn, .int .i64 q.prev, .int .i64 q.next, .int .i64 q.page, .int .i64 q.off, .slice UA q.before.length ub, .slice UB q.after.length ua, .slice UT q.txns.length ut, .slice UD q.dirty.length ud, .int .i64 q.count])
  have HU := hid (hn2.below ((Below.refl w5.heap.size w5).alloc (Nat.le_refl _) (.cells #[.int .i64 q.kind, .int .i64 q.txn, .int .i64 q.prev, .int .i64 q.next, .int .i64 q.page, .int .i64 q.off, .slice UA q.before.length ub, .slice UB q.after.length ua, .slice UT q.txns.length ut, .slice UD q.dirty.length ud, .int .i64 q.count] 28)))
  have HX := hid (HN1.out.below hB45)
  have HK := hid ((HK3.out.below HB4.out Hg4.out.2).below hB45 (by have := Hg4.out.2; have := HB4.out.size; omega))
  have hs45 := hid (show w4.heap.size + 1 ≤ w5.heap.size from by have := hb5.size; simpa using this)
  have HRb := hid (((HF1.out.below HB3.out).below HB4.out).below hB45)
  have HEA := hid (((HE1.out.trans (HB3.out.mono HE1.out.size)).trans (HB4.out.mono (by have := HE1.out.size; have := HB3.out.size; omega))).trans (hB45.mono (by have := HE1.out.size; have := HB3.out.size; have := HB4.out.size; omega)))
  have hs13 := hid HB3.out.size
  have hs34 := hid HB4.out.size
  have hs1 := hid HE1.out.size
  have hSA := hid (show ∀ i, YA = some ⟨i, 0, none⟩ → w3.heap.size ≤ i ∧ i < w4.heap.size from fun i e => by obtain ⟨g, cs, h', hb, hk⟩ := HN1.out.nb.at_ _ e; injection h' with h'; subst h'; exact ⟨hb, hk.lt⟩)
  have hSD := hid (show ∀ i, YD = some ⟨i, 0, none⟩ → w3.heap.size ≤ i ∧ i < w4.heap.size from fun i e => by obtain ⟨g, cs, h', hb, hk⟩ := HN1.out.nd.at_ _ e; injection h' with h'; subst h'; exact ⟨hb, hk.lt⟩)
  clear hn2 hb5 hB45 HN1 HK3 HB4 Hrs Hrs4 HB3 HE1 HF1 HO3
  go_wp2_with fail
  generalize hwA : w5.alloc _ = wA at *
  have hsA : w5.heap.size + 1 = wA.heap.size := by rw [← hwA]; simp
  clear hwA
  have hlb := hid (show q.before.length ≤ 50000000 from by have h1 := hqs.out; have h2 := hle.out; unfold MRec.size at h1; omega)
  have hld := hid (show q.dirty.length ≤ 50000000 from by have h1 := hqs.out; have h2 := hle.out; unfold MRec.size at h1; omega)
  have lb := hlb.out
  have ld := hld.out
  go_loopw [11] (fun i wr => ∃ k : Nat, k ≤ q.before.length ∧ i = .int .i64 k ∧ Chg (fun i => YA = some ⟨i, 0, none⟩) wA wr ∧ (k < q.before.length → ∃ (g : Nat) (cs : Array Value), YA = some ⟨g, 0, none⟩ ∧ Blk wr g 5 cs ∧ ∀ j (hj : j < q.before.length), k ≤ j → cs[j]? = some (.int .u8 (q.before[j].toNat : Int)))) (fun i _ => q.before.length - (intOf i).toNat)
  case atStart =>
    refine ⟨0, by omega, rfl, Chg.refl _ _, fun hk => ?_⟩
    obtain ⟨g, cs, e, _, _, hk', hc⟩ := HX.out.nb.cs hk
    exact ⟨g, cs, e, hk', fun j hj _ => hc j _ (by simp [u8s, List.getElem?_eq_getElem hj])⟩
  case round =>
    obtain ⟨k, hk, rfl, hch, hin⟩ := hrel
    have HC := hid hch
    have c6 := (H5.out.chg hch (fun e => by have := (hSA.out _ e).2; omega)).cell_ 6 rfl
    have c9 := (H5.out.chg hch (fun e => by have := (hSA.out _ e).2; omega)).cell_ 9 rfl
    clear hch
    by_cases hlt : k < q.before.length
    · obtain ⟨g, cs, rfl, hkb, hall⟩ := hin hlt
      have hlt' : (k : Int) < (q.before.length : Int) := by omega
      have hcell : wr.cell? ⟨g, k, none⟩ = some (.int .u8 (q.before[k].toNat : Int)) := hkb.cell_ k (hall k hlt (Nat.le_refl _))
      have hfz := hkb.frozen k
      have HKB := hid hkb
      have Hall := hid hall
      have hb8 := (q.before[k]).toNat_lt
      generalize (q.before[k]).toNat = z at *
      clear hin hkb hall
      go_wp2
      go_roundw
      case rel =>
        refine ⟨k + 1, by omega, by go_num, HC.out.setCell (fun _ => rfl) _, fun hk1 => ⟨g, _, rfl, HKB.out.set_ k _, fun j hj hkj => ?_⟩⟩
        rw [Array.getElem?_setIfInBounds_ne (by omega)]
        exact Hall.out j hj (by omega)
      case measure => simp [intOf]; omega
    · have hlt' : decide ((k : Int) < (q.before.length : Int)) = false := by simp; omega
      have hnd : Hid (0 < q.dirty.length → ∃ (g : Nat) (cs : Array Value), YD = some ⟨g, 0, none⟩ ∧ Blk wr g 45 cs ∧ 2 * q.dirty.length ≤ cs.size) := hid (by
        intro h0
        obtain ⟨g, cs, e, _, _, hk', hc⟩ := HX.out.nd.cs h0
        refine ⟨g, cs, e, hk'.chg HC.out (fun e' => ?_), ?_⟩
        · obtain ⟨g', cs', h', _, hk2⟩ := HX.out.nb.at_ _ e'
          injection h' with h'
          subst h'
          exact hk'.ne_ hk2 (by decide) rfl
        · have hlen := length_diV q.dirty
          have h1 := hc (2 * q.dirty.length - 1) _ (List.getElem?_eq_getElem (by omega))
          have := (Array.getElem?_eq_some_iff.1 h1).1
          omega)
      clear hin
      go_wp2_with fail
      go_loopw [12] (fun i wx => ∃ k : Nat, k ≤ q.dirty.length ∧ i = .int .i64 k ∧ Chg (fun i => YD = some ⟨i, 0, none⟩) wr wx ∧ (0 < q.dirty.length → ∃ (g : Nat) (cs : Array Value), YD = some ⟨g, 0, none⟩ ∧ Blk wx g 45 cs ∧ 2 * q.dirty.length ≤ cs.size)) (fun i _ => q.dirty.length - (intOf i).toNat)
      case atStart => exact ⟨0, by omega, rfl, Chg.refl _ _, hnd.out⟩
      case round =>
        obtain ⟨k2, hk2, rfl, hch2, hin2⟩ := hrel
        have HC2 := hid hch2
        clear c6 c9
        have H5r := (H5.out.chg HC.out (fun e => by have := (hSA.out _ e).2; omega)).chg hch2 (fun e => by have := (hSD.out _ e).2; omega)
        have c9 := H5r.cell_ 9 rfl
        clear hch2 H5r
        by_cases hlt2 : k2 < q.dirty.length
        · obtain ⟨g, cs, rfl, hkb, hsz⟩ := hin2 (by omega)
          have hlt2' : (k2 : Int) < (q.dirty.length : Int) := by omega
          have hcell : wr.cell? ⟨g, k2 * 2, none⟩ = some (cs[k2 * 2]'(by omega)) := hkb.cell_ (k2 * 2) (Array.getElem?_eq_getElem (by omega))
          have hfz := hkb.frozen (k2 * 2)
          have HKB := hid hkb
          clear hin2 hkb
          go_wp2
          go_roundw
          case rel => exact ⟨k2 + 1, by omega, by go_num, HC2.out.setCell (fun _ => rfl) _, fun _ => ⟨g, _, rfl, HKB.out.set_ (k2 * 2) _, by simpa using hsz⟩⟩
          case measure => simp [intOf]; omega
        · have hlt2' : decide ((k2 : Int) < (q.dirty.length : Int)) = false := by simp; omega
          have HKc : Hid (Blk wr g4 5 cs4) := hid ((HK.out.chg HC.out (fun e => by have := (hSA.out _ e).1; have := Hg4.out.2; omega)).chg HC2.out (fun e => by have := (hSD.out _ e).1; have := Hg4.out.2; omega))
          have h77' := hid h77.out
          clear hin2
          go_wp2_with fail
          go_loopw [13] (fun i wx => ∃ k : Nat, k ≤ r.size ∧ i = .int .i64 k ∧ Chg (· = g4) wr wx ∧ ∃ cs : Array Value, Blk wx g4 5 cs ∧ cs[r.size]? = some (.int .u8 77)) (fun i _ => r.size - (intOf i).toNat)
          case atStart => exact ⟨0, by omega, rfl, Chg.refl _ _, cs4, HKc.out, h77.out⟩
          case round =>
            obtain ⟨k3, hk3, rfl, hch3, cs, hkb, hc77⟩ := hrel
            have HC3 := hid hch3
            have HKB := hid hkb
            have H77 := hid hc77
            have hsz := (Array.getElem?_eq_some_iff.1 hc77).1
            by_cases hlt3 : k3 < r.size
            · have hlt3' : (k3 : Int) < (r.size : Int) := by omega
              have hcell : wr.cell? ⟨g4, k3, none⟩ = some (cs[k3]'(by omega)) := hkb.cell_ k3 (Array.getElem?_eq_getElem (by omega))
              have hfz := hkb.frozen k3
              clear hch3 hkb hc77
              go_wp2
              go_roundw
              case rel => exact ⟨k3 + 1, by omega, by go_num, HC3.out.setCell (fun _ => rfl) _, _, HKB.out.set_ k3 _, by rw [Array.getElem?_setIfInBounds_ne (by omega)]; exact H77.out⟩
              case measure => simp [intOf]; omega
            · have hlt3' : decide ((k3 : Int) < (r.size : Int)) = false := by simp; omega
              have HRd : Hid (Rd wr 1 A3 r.size (u8s r.enc)) := hid (((HRb.out.chg HC.out (fun ad e e' => by have h1 := HA3.out ad e; have h2 := (hSA.out _ e').1; have := hs13.out; omega)).chg HC2.out (fun ad e e' => by have h1 := HA3.out ad e; have h2 := (hSD.out _ e').1; have := hs13.out; omega)).chg hch3 (fun ad e e' => by have h1 := HA3.out ad e; have h2 := Hg4.out.1; omega))
              have hgrow := hid (show wA.heap.size ≤ wr.heap.size from Nat.le_trans HC.out.size (Nat.le_trans HC2.out.size hch3.size))
              have hbase := hid (show (w4.alloc (.cells #[.int .i64 q.kind, .int .i64 q.txn, .int .i64 q.prev, .int .i64 q.next, .int .i64 q.page, .int .i64 q.off, .slice YA q.before.length yb, .slice YB q.after.length ya, .slice YT q.txns.length yt, .slice YD q.dirty.length yd, .int .i64 q.count] 28)).heap.size = w4.heap.size + 1 from by simp)
              have HUr := hid (((HU.out.chg HC.out (fun i e => by have := (hSA.out _ e).2; have := hbase.out; omega)).chg HC2.out (fun i e => by have := (hSD.out _ e).2; have := hbase.out; omega)).chg hch3 (fun i e => by have h2 := Hg4.out.2; have := hs34.out; have := hbase.out; omega))
              have H8r := hid (((H8.out.chg HC.out (fun e => by have := (hSA.out _ e).2; have := hs45.out; omega)).chg HC2.out (fun e => by have := (hSD.out _ e).2; have := hs45.out; omega)).chg hch3 (fun e => by have h2 := Hg4.out.2; have := hs34.out; have := hs45.out; omega))
              have HEr : Hid (Below w.heap.size w wr) := hid (((HEA.out.trans (HC.out.below HEA.out.size (fun i e => by have := (hSA.out _ e).1; have := hs13.out; have := hs1.out; omega))).trans (HC2.out.below (Nat.le_trans HEA.out.size HC.out.size) (fun i e => by have := (hSD.out _ e).1; have := hs13.out; have := hs1.out; omega))).trans (hch3.below (Nat.le_trans HEA.out.size (Nat.le_trans HC.out.size HC2.out.size)) (fun i e => by have := Hg4.out.1; have := hs1.out; omega)))
              clear hch3 hkb hc77
              go_wp2_with fail
              refine (rdecode_any A3 r.size c3 r.enc _ HRd.out hle.out.symm hcap3 (by rw [hle.out]; omega) (fun ad e => by have h1 := HA3.out ad e; have := hs13.out; have := hs34.out; have := hs45.out; have := hgrow.out; omega)).mono ?_
              rintro e w6 ⟨ZA, zb, ZB, za, ZT, zt, ZD, zd, rfl, hn3, hb6⟩
              rw [Hq.out] at hn3
              rw [Hq.out, Hqk.out, Hqo.out]
              have hv3 : gotVal q ZA zb ZB za ZT zt ZD zd qk qo = .agg #[.int .i64 q.kind, .int .i64 q.txn, .int .i64 q.prev, .int .i64 q.next, .int .i64 q.page, .int .i64 q.off, .slice ZA q.before.length zb, .slice ZB q.after.length za, .slice ZT q.txns.length zt, .slice ZD q.dirty.length zd, .int .i64 q.count, .int .i64 qk, .bool qo] := rfl
              rw [hv3]
              have hbE : Below wr.heap.size wr (w6.alloc (.cells #[.int .i64 q.kind, .int .i64 q.txn, .int .i64 q.prev, .int .i64 q.next, .int .i64 q.page, .int .i64 q.off, .slice ZA q.before.length zb, .slice ZB q.after.length za, .slice ZT q.txns.length zt, .slice ZD q.dirty.length zd, .int .i64 q.count, .int .i64 qk, .bool qo] 36)) := hb6.alloc hb6.size _
              have HEE := hid (HEr.out.trans (hbE.mono HEr.out.size))
              have hown : (w6.alloc (.cells #[.int .i64 q.kind, .int .i64 q.txn, .int .i64 q.prev, .int .i64 q.next, .int .i64 q.page, .int .i64 q.off, .slice ZA q.before.length zb, .slice ZB q.after.length za, .slice ZT q.txns.length zt, .slice ZD q.dirty.length zd, .int .i64 q.count, .int .i64 qk, .bool qo] 36)).cell? ⟨g4, r.size, none⟩ = some (.int .u8 77) := (HKB.out.below hbE HKB.out.lt).cell_ r.size H77.out
              obtain ⟨⟨p0, p1, p2, p3, p4, p5, p6, p7, p8, p9, p10⟩, _⟩ := blk11_ (H8r.out.below hbE H8r.out.lt)
              have HUE := hid (HUr.out.mem.below hbE)
              have HZE := hid (hn3.mem.below ((Below.refl w6.heap.size w6).alloc (Nat.le_refl _) (.cells #[.int .i64 q.kind, .int .i64 q.txn, .int .i64 q.prev, .int .i64 q.next, .int .i64 q.page, .int .i64 q.off, .slice ZA q.before.length zb, .slice ZB q.after.length za, .slice ZT q.txns.length zt, .slice ZD q.dirty.length zd, .int .i64 q.count, .int .i64 qk, .bool qo] 36)))
              have hsame := hid (same_any q UA ub UB ua UT ut UD ud ZA zb ZB za ZT zt ZD zd)
              unfold recVal at hsame
              clear hn3 hb6 hbE
              go_wp2_with fail
              refine (hsame.out _ HUE.out HZE.out (by have h1 := hqs.out; have h2 := hle.out; omega)).mono ?_
              rintro e w7 ⟨rfl, hb7⟩
              have HE7 := hid (below_call HEE.out hb7 rfl rfl rfl rfl HEE.out.size)
              clear hb7
              go_wp2_with fail
              refine (awake_any _).mono ?_
              rintro e w8 ⟨rfl, hb8⟩
              have HE8 := hid (below_call HE7.out hb8 rfl rfl rfl rfl HE7.out.size)
              clear hb8
              go_wp2
              go_ret
              exact ⟨by first | rfl | simp, HE8.out⟩
end Go.Proofs.Ytkpopjpmjcgbfaa
