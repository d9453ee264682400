/- The document's Put answers as package slot does. Conditions: none but what a slice is. -/
import Derived.Test.YtpdikmkhkiplbaaRf4
import Derived.Test.YtpdikmkhkiplbaaRf5
namespace Go.Proofs.Ytpdikmkhkiplbaa
open Go.RowKit
set_option maxRecDepth 100000
set_option linter.unusedVariables false
set_option linter.unusedSimpArgs false

theorem withL_spot (l : Recs) (d : List UInt8) : withL l (spot l) d = (widen l).set (spot l) (some d) := by
  unfold withL widen spot
  cases h : hole l with
  | none => simp
  | some k =>
    have := (hole_some h).1
    simp only [Option.getD_some]
    rw [if_neg (by omega)]
theorem spot_le (l : Recs) : spot l ≤ l.length := by
  unfold spot
  cases h : hole l with
  | none => simp
  | some k => have := (hole_some h).1; simp; omega
theorem sum_spot (l : Recs) (d : List UInt8) : sum (withL l (spot l) d) = sum (widen l) + d.length := by
  have := sum_set (widen l) (spot l) none (some d) spot_none
  rw [withL_spot]
  simpa using this
theorem len_spot (l : Recs) (d : List UInt8) : (withL l (spot l) d).length = (widen l).length := by rw [withL_spot, List.length_set]
theorem trim_set {l : Recs} (h : trim l = l) (k : Nat) (d : List UInt8) : trim (l.set k (some d)) = l.set k (some d) := by
  rcases trim_form l with h0 | ⟨a, r, h0⟩
  · rw [h] at h0
    subst h0
    rfl
  · rw [h] at h0
    subst h0
    refine trim_fix _ (.inr ?_)
    rw [List.set_append]
    by_cases hk : k < a.length
    · rw [if_pos hk]; exact ⟨_, r, rfl⟩
    · rw [if_neg hk]
      cases k - a.length with
      | zero => exact ⟨a, d, rfl⟩
      | succ n => exact ⟨a, r, by simp⟩
theorem trim_spot {l : Recs} (h : trim l = l) (d : List UInt8) : trim (withL l (spot l) d) = withL l (spot l) d := by
  unfold withL spot
  cases hh : hole l with
  | none => simp [trim_some]
  | some k =>
    have := (hole_some hh).1
    simp only [Option.getD_some]
    rw [if_neg (by omega)]
    exact trim_set h k d
theorem spot_is {l : Recs} {k : Nat} (hk : k ≤ l.length) (hb : ∀ j, j < k → ∃ r, l[j]? = some (some r)) (he : k < l.length → l[k]? = some none) : spot l = k := by
  unfold spot
  rcases Nat.lt_or_ge k l.length with h | h
  · rw [hole_is (he h) hb]; rfl
  · have e : k = l.length := by omega
    subst e
    rw [hole_not hb]; rfl
theorem results_cell1 {P : Program} {fn : Func} {p : Tmp} {ty : TypeId} (h : fn.results = #[.cell p ty]) (tmps : Array Value) (w : World) (g : Nat) (t : TypeId) (cs : Array Value) (d : TypeDesc)
    (hp : tmps.getD p undef = .pointer (some ⟨g, 0, none⟩)) (hg : Blk w g t cs)
    (hu : P.underlying ty = some d) (hd : (match d with | .struct _ | .array _ _ => true | _ => false) = true) (hi : (P.info? ty).map (·.size) = some cs.size) :
    (results fn tmps).run P w = .ok (.agg cs) w := results_cell_row h tmps w g t cs (0, 0) d hp hg hu hd hi
theorem blk_store3 {w : World} {g : Nat} {t : TypeId} {a0 a1 a2 : Value} (b0 b1 b2 : Value) (h : Blk w g t #[a0, a1, a2]) : Blk (((w.setCell ⟨g, 0, none⟩ b0).setCell ⟨g, 1, none⟩ b1).setCell ⟨g, 2, none⟩ b2) g t #[b0, b1, b2] := by
  have := (((h.set_ 0 b0).set_ 1 b1).set_ 2 b2)
  simpa using this
theorem chg_set3 {w : World} (D i j k : Nat) (v u x : Value) : Chg (· = D) w (((w.setCell ⟨D, i, none⟩ v).setCell ⟨D, j, none⟩ u).setCell ⟨D, k, none⟩ x) := (chg_set2 D i j v u).setCell (p := ⟨D, k, none⟩) (fun _ => rfl) x
theorem Blk.any3 {w : World} {g : Nat} {t : TypeId} {a0 a1 a2 : Value} (h : Blk w g t #[a0, a1, a2]) : ∃ v0 v1 v2, w.cell? ⟨g, 0, none⟩ = some v0 ∧ w.cell? ⟨g, 1, none⟩ = some v1 ∧ w.cell? ⟨g, 2, none⟩ = some v2 ∧ w.frozen? ⟨g, 0, none⟩ = false ∧ w.frozen? ⟨g, 1, none⟩ = false ∧ w.frozen? ⟨g, 2, none⟩ = false ∧ Hid (Blk w g t #[v0, v1, v2]) :=
  ⟨a0, a1, a2, h.cell_ 0 rfl, h.cell_ 1 rfl, h.cell_ 2 rfl, h.frozen 0, h.frozen 1, h.frozen 2, h⟩

theorem OutB.chg {B : Nat} {w w' : World} {v : Value} {bs : List UInt8} {S : Nat → Prop} (h : OutB B w v bs) (hc : Chg S w w') (hS : ∀ g, B ≤ g → ¬ S g) : OutB B w' v bs := by
  obtain ⟨A, c, rfl, hl, hn⟩ := h
  exact ⟨A, c, rfl, hl, hn.chg hc (fun ad e => by obtain ⟨g, cs, rfl, hb, _⟩ := hn.at_ ad e; exact hS _ hb)⟩
/-- what Put tells -/
def RPutPost (bs d : List UInt8) (w : World) (e : Ending) (w' : World) : Prop :=
  ∃ v, e = .returned (.agg #[.int .i64 (putB bs d).2.1, v, .int .i64 (putB bs d).1]) ∧ OutB w.heap.size w' v (obytes (putB bs d).2.2) ∧ Below w.heap.size w w'
theorem rput_bad {bs d : List UInt8} {w w' : World} {x : Int} (h : putB bs d = (x, 0, none)) (hb : Below w.heap.size w w') : RPutPost bs d w (.returned (.agg #[.int .i64 0, .slice none 0 0, .int .i64 x])) w' := by
  unfold RPutPost
  rw [h]
  exact ⟨_, rfl, OutB.nil, hb⟩

set_option maxHeartbeats 3200000 in
theorem rput_any (A : Option Addr) (n c : Nat) (bs : List UInt8) (A2 : Option Addr) (n2 c2 : Nat) (d : List UInt8) (w : World) (hr : Rd w 1 A n (u8s bs)) (hn : n = bs.length) (hc : n ≤ c) (hr2 : Rd w 1 A2 n2 (u8s d)) (hn2 : n2 = d.length) :
    Calls Try.prog 20 #[.slice A n c, .slice A2 n2 c2] w fun e w' => RPutPost bs d w e w' := by
  have hb0 : Below w.heap.size w (w.alloc (.cells #[.int .i64 0, .slice none 0 0, .int .i64 0] 45)) := (Below.refl _ _).alloc (Nat.le_refl _) _
  have hk0 := Blk.new w 45 #[.int .i64 0, .slice none 0 0, .int .i64 0]
  have H := hid (rread_any A n c bs _ (hr.below hb0) hn hc)
  have HB0 := hid hb0
  have HK0 := hid hk0
  have HR2 := hid hr2
  have HN2 := hid hn2
  clear hr hn hr2 hn2 hb0 hk0
  go_enter Try.func20, Try.ntmps20
  go_wp2_with fail
  refine H.out.mono ?_
  rintro e w1 ⟨A1, c1, rfl, ho1, hb1⟩
  have HA := hid (afterR ho1 hb1)
  have hlt0 : w.heap.size < (w.alloc (.cells #[.int .i64 0, .slice none 0 0, .int .i64 0] 45)).heap.size := by simp
  have HK := hid (HK0.out.below HA.out.be hlt0)
  have HB := hid (HB0.out.trans (HA.out.be.mono HB0.out.size))
  have HS := hid HA.out.sr
  have HX := hid HA.out.bx
  clear ho1 hb1 H HA hlt0 HB0 HK0
  go_upto_region 2 with fail
  generalize hw2 : w1.alloc (.cells #[.int .i64 (pgD bs).next, .slice A1 (pgD bs).l.length c1] 66) = w2
  rw [hw2] at HK HB HS HX
  have HR := hid (HR2.out.below HB.out)
  obtain ⟨pc0, pc1, _⟩ := blk2 HX.out
  obtain ⟨v0, v1, v2, wc0, wc1, wc2, wf0, wf1, wf2, HKx⟩ := HK.out.any3
  clear hw2
  cases hp : pg bs with
  | none => as_aux_lemma =>
    have hg : Hid (putB bs d = (63, 0, none)) := hid (by rw [putB, hp])
    clear hp
    simp only [Option.isSome_none]
    go_wp2_with fail
    refine bodyPost_ret (results_cell1 rfl _ _ w.heap.size 45 _ _ rfl (blk_store3 _ _ _ HKx.out) Try.underlying45 rfl (by kernel_rfl)) rfl ?_
    exact rput_bad hg.out (HB.out.trans ((chg_set3 w.heap.size 0 1 2 _ _ _).below HB.out.size (fun i hi => by omega)))
  | some q => as_aux_lemma =>
    have hq : Hid (putB bs d = putP (pgD bs) d) := hid (by rw [putB, hp, pgD_some hp])
    have hv := hid (pgD_valid bs)
    have hlen : (pgD bs).l.length ≤ 124 := hv.out.len
    clear hp
    simp only [Option.isSome_some]
    by_cases h480 : 480 < n2
    · as_aux_lemma =>
      have hg : Hid (putB bs d = (1, 0, none)) := hid (by rw [hq.out, putP, if_pos (by have := HN2.out; omega)])
      go_wp2_with fail
      refine bodyPost_ret (results_cell1 rfl _ _ w.heap.size 45 _ _ rfl (blk_store3 _ _ _ HKx.out) Try.underlying45 rfl (by kernel_rfl)) rfl ?_
      exact rput_bad hg.out (HB.out.trans ((chg_set3 w.heap.size 0 1 2 _ _ _).below HB.out.size (fun i hi => by omega)))
    · as_aux_lemma =>
      go_upto_block 0 with fail
      go_cut [7] (fun i wx => i = .int .i64 (spot (pgD bs).l) ∧ wx = w2)
      case first => as_aux_lemma =>
        go_wp2_with fail
        go_loopw [7] (fun i wr => wr = w2 ∧ ∃ k : Nat, k ≤ (pgD bs).l.length ∧ i = .int .i64 k ∧ Hid (∀ j, j < k → ∃ r, (pgD bs).l[j]? = some (some r))) (fun i _ => (pgD bs).l.length - (intOf i).toNat)
        case atStart => exact ⟨rfl, 0, by omega, rfl, hid (fun j hj => absurd hj (by omega))⟩
        case round => as_aux_lemma =>
          obtain ⟨rfl, k, hk, rfl, hj⟩ := hrel
          by_cases hlt : k < (pgD bs).l.length
          · obtain ⟨x, hx⟩ : ∃ x, (pgD bs).l[k]? = some x := ⟨_, List.getElem?_eq_getElem hlt⟩
            obtain ⟨b, o, rfl, hb, h21, _⟩ := HS.out k x hx
            have hlt' : (k : Int) < ((pgD bs).l.length : Int) := by omega
            have Hx := hid hx
            clear hx
            cases x with
            | none =>
              simp only [Option.isSome_none] at h21
              have he : Hid (spot (pgD bs).l = k) := hid (spot_is hk hj.out (fun _ => Hx.out))
              go_wp2
              go_meet
              exact ⟨by rw [he.out], rfl⟩
            | some r =>
              simp only [Option.isSome_some] at h21
              go_wp2
              go_roundw
              case rel => exact ⟨by first | rfl | trivial, k + 1, by omega, by go_num, hid (fun j hj' => by
                rcases Nat.lt_or_ge j k with h | h
                · exact hj.out j h
                · have e : j = k := by omega
                  subst e; exact ⟨r, Hx.out⟩)⟩
              case measure => simp [intOf]; omega
          · have hlt' : ¬ ((k : Int) < ((pgD bs).l.length : Int)) := by omega
            have he : Hid (spot (pgD bs).l = k) := hid (spot_is hk hj.out (fun h => absurd h hlt))
            go_wp2
            go_meet
            exact ⟨by rw [he.out], rfl⟩
      case rest => as_aux_lemma =>
        obtain ⟨rfl, rfl⟩ := hcut
        have hwith := hid (rwith_any A1 c1 (pgD bs).next (pgD bs).l (spot (pgD bs).l) A2 n2 c2 d wc HS.out (spot_le _) hv.out.fits.1 HR.out HN2.out (by have := HN2.out; omega))
        go_wp2_with fail
        refine hwith.out.mono ?_
        rintro e w3 hpost
        unfold WithPost at hpost
        obtain ⟨hb3, hpost⟩ := hpost
        have HB3 := hid (HB.out.trans (hb3.mono HB.out.size))
        have hltw := HKx.out.lt
        have HK3 := hid (HKx.out.below hb3 hltw)
        have hlen2 := len_spot (pgD bs).l d
        have hsum2 := sum_spot (pgD bs).l d
        have Hlen := hid hlen2
        have Hsum := hid hsum2
        clear hb3 hwith hlen2 hsum2
        by_cases hfit : 498 < 4 * (withL (pgD bs).l (spot (pgD bs).l) d).length + sum (withL (pgD bs).l (spot (pgD bs).l) d)
        · as_aux_lemma =>
          rw [if_pos hfit] at hpost
          subst hpost
          have hg : Hid (putB bs d = (60, 0, none)) := hid (by
            have h1 := HN2.out
            have h2 := Hlen.out
            have h3 := Hsum.out
            rw [hq.out, putP, if_neg (by omega), if_pos (by omega)])
          obtain ⟨x0, x1, x2, xc0, xc1, xc2, xf0, xf1, xf2, HKz⟩ := (HK3.out.alloc (.cells #[.int .i64 (pgD bs).next, .slice A1 (pgD bs).l.length c1] 66)).any3
          have hbz := hid ((Below.refl _ w3).alloc (Nat.le_refl _) (.cells #[.int .i64 (pgD bs).next, .slice A1 (pgD bs).l.length c1] 66))
          have HB4 := hid (HB3.out.trans (hbz.out.mono HB3.out.size))
          clear wc0 wc1 wc2 wf0 wf1 wf2 hbz
          go_wp2_with fail
          refine bodyPost_ret (results_cell1 rfl _ _ w.heap.size 45 _ _ rfl (blk_store3 _ _ _ HKz.out) Try.underlying45 rfl (by kernel_rfl)) rfl ?_
          exact rput_bad hg.out (HB4.out.trans ((chg_set3 w.heap.size 0 1 2 _ _ _).below HB4.out.size (fun i hi => by omega)))
        · as_aux_lemma =>
          rw [if_neg hfit] at hpost
          obtain ⟨A4, c4, rfl, hs4⟩ := hpost
          have hg : Hid (putB bs d = (0, spot (pgD bs).l, some ⟨(pgD bs).next, withL (pgD bs).l (spot (pgD bs).l) d⟩)) := hid (by
            have h1 := HN2.out
            have h2 := Hlen.out
            have h3 := Hsum.out
            rw [hq.out, putP, if_neg (by omega), if_neg (by omega), withL_spot])
          have hbx := (box66 w3 (pgD bs).next (.slice A4 (withL (pgD bs).l (spot (pgD bs).l) d).length c4)).1
          have hcall := hid (rbytes_any A4 c4 (pgD bs).next.toNat (withL (pgD bs).l (spot (pgD bs).l) d) _ (hs4.below hbx) (by have := hv.out.n1; have := hv.out.n2; omega) (by omega))
          rw [← raw_bytes _ _ (trim_spot hv.out.tr d), Int.toNat_of_nonneg hv.out.n1] at hcall
          have HB4 := hid (HB3.out.trans (hbx.mono HB3.out.size))
          have HK4 := hid (HK3.out.alloc (.cells #[.int .i64 (pgD bs).next, .slice A4 (withL (pgD bs).l (spot (pgD bs).l) d).length c4] 66))
          clear hs4 hbx wc0 wc1 wc2 wf0 wf1 wf2 HK3
          go_wp2_with fail
          refine hcall.out.mono ?_
          rintro e w5 ⟨v5, rfl, ho5, hb5⟩
          obtain ⟨A5, c5, rfl, HO5⟩ := ho5.split
          have HB5 := hid (HB4.out.trans (hb5.mono HB4.out.size))
          have hlt4 := HK4.out.lt
          obtain ⟨x0, x1, x2, xc0, xc1, xc2, xf0, xf1, xf2, HKy⟩ := (HK4.out.below hb5 hlt4).any3
          have hle := hid hlt4
          clear ho5 hb5 hcall hlt4
          go_wp2_with fail
          refine bodyPost_ret (results_cell1 rfl _ _ w.heap.size 45 _ _ rfl (blk_store3 _ _ _ HKy.out) Try.underlying45 rfl (by kernel_rfl)) rfl ?_
          unfold RPutPost
          rw [hg.out]
          have hch := chg_set3 (w := w5) w.heap.size 0 1 2 (.int .i64 (spot (pgD bs).l)) (.slice A5 (MPage.bytes ⟨(pgD bs).next, withL (pgD bs).l (spot (pgD bs).l) d⟩).length c5) (.int .i64 0)
          exact ⟨_, rfl, (HO5.out.chg hch (fun g hg e => by have := hle.out; omega)).mono (by have := HB4.out.size; omega), HB5.out.trans (hch.below HB5.out.size (fun i hi => by omega))⟩
end Go.Proofs.Ytpdikmkhkiplbaa
