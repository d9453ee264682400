/- What package slot's Put and Set answer. Conditions: none but what a slice is. -/
import Derived.Test.YtpdikmkhkiplbaaFn4
namespace Go.Proofs.Ytpdikmkhkiplbaa
open Go.RowKit
set_option maxRecDepth 100000
set_option linter.unusedVariables false
set_option linter.unusedSimpArgs false

/-- a row with an empty slot in it, and its place -/
def widen (l : Recs) : Recs := match hole l with | none => l ++ [none] | some _ => l
def spot (l : Recs) : Nat := (hole l).getD l.length
/-- what Put answers: an error, or the slot and the page -/
def putP (q : MPage) (d : List UInt8) : Int × Nat × Option MPage :=
  if 480 < d.length then (1, 0, none)
  else if 498 < 4 * (widen q.l).length + sum (widen q.l) + d.length then (60, 0, none)
  else (0, spot q.l, some ⟨q.next, (widen q.l).set (spot q.l) (some d)⟩)
noncomputable def putB (bs d : List UInt8) : Int × Nat × Option MPage := match pg bs with | none => (63, 0, none) | some q => putP q d
def obytes (q : Option MPage) : List UInt8 := match q with | none => [] | some q => q.bytes
theorem spot_none {l : Recs} : (widen l)[spot l]? = some none := by
  unfold widen spot
  cases h : hole l with
  | none => simp
  | some k => simp; exact (hole_some h).2.1
theorem spot_lt {l : Recs} : spot l < (widen l).length := (List.getElem?_eq_some_iff.1 (spot_none (l := l))).1
theorem widen_len (l : Recs) : (widen l).length ≤ l.length + 1 := by unfold widen; split <;> simp
theorem sum_none (l : Recs) : sum (l ++ [none]) = sum l := by rw [sum_snoc]; rfl
theorem widen_sum (l : Recs) : sum (widen l) = sum l := by unfold widen; split <;> simp [sum_none]
theorem widen_mem {l : Recs} {r : List UInt8} (h : some r ∈ widen l) : some r ∈ l := by
  unfold widen at h
  split at h
  · simpa using h
  · exact h
theorem sum_set (l : Recs) (k : Nat) (x y : Option (List UInt8)) (h : l[k]? = some x) : sum (l.set k y) + (x.getD []).length = sum l + (y.getD []).length := by
  induction l generalizing k with
  | nil => simp at h
  | cons z l ih =>
    cases k with
    | zero => simp at h; subst h; simp [sum]; omega
    | succ k => have := ih k (by simpa using h); simp [sum] at this ⊢; omega
theorem good_put {q : MPage} {d : List UInt8} (hv : Valid q) (h1 : d.length ≤ 480) (h2 : 4 * (widen q.l).length + sum (widen q.l) + d.length ≤ 498) : Good ⟨q.next, (widen q.l).set (spot q.l) (some d)⟩ := by
  have h3 := sum_set (widen q.l) (spot q.l) none (some d) spot_none
  simp only [Option.getD_none, Option.getD_some, List.length_nil, Nat.add_zero] at h3
  have h4 := widen_len q.l
  have h5 := hv.len
  refine ⟨trim_fits (by rw [List.length_set]; show 4 * (widen q.l).length + sum ((widen q.l).set (spot q.l) (some d)) ≤ 498; omega) (fun r hr => ?_), hv.n1, hv.n2, by rw [List.length_set]; omega⟩
  rcases List.mem_or_eq_of_mem_set hr with h' | h'
  · exact hv.fits.2 r (widen_mem h')
  · injection h' with h'; subst h'; exact h1
/-- a record is laid into its slot -/
theorem rec_in {B P : Nat} {w w5 : World} {q : MPage} {g c k g5 c5 : Nat} {x : Option (List UInt8)} {d : List UInt8} (hb : Blk w P 55 #[.int .i64 q.next, .slice (some ⟨g, 0, none⟩) q.l.length c]) (hr : RowAt B w (.slice (some ⟨g, 0, none⟩) q.l.length c) q.l) (hx : q.l[k]? = some x)
    (hl5 : d.length ≤ c5) (hn5 : NewRow w.drew.heap.size w5 5 1 (some ⟨g5, 0, none⟩) d.length (u8s d)) (hb5 : Below w.drew.heap.size w.drew w5) (hgP : g ≠ P) (hB : B ≤ w.heap.size) (hP : B ≤ P) :
    w5.cell? ⟨P, 1, none⟩ = some (.slice (some ⟨g, 0, none⟩) q.l.length c) ∧ (∃ v, w5.cell? ⟨g, k, none⟩ = some v) ∧ w5.frozen? ⟨g, k, none⟩ = false ∧
      Hid (PgAt B (w5.setCell ⟨g, k, none⟩ (.slice (some ⟨g5, 0, none⟩) d.length c5)) P ⟨q.next, q.l.set k (some d)⟩ ∧ Below B w (w5.setCell ⟨g, k, none⟩ (.slice (some ⟨g5, 0, none⟩) d.length c5))) ∧
      (w5.setCell ⟨g, k, none⟩ (.slice (some ⟨g5, 0, none⟩) d.length c5)).cell? ⟨P, 1, none⟩ = some (.slice (some ⟨g, 0, none⟩) q.l.length c) := by
  have hb' : Below w.heap.size w w5 := ⟨hb5.os, hb5.tape, hb5.output, hb5.size, hb5.block⟩
  have hk := (List.getElem?_eq_some_iff.1 hx).1
  have hB5 : Blk w5 P 55 #[.int .i64 q.next, .slice (some ⟨g, 0, none⟩) q.l.length c] := hb.below hb' hb.lt
  have hR5 : RowAt B w5 (.slice (some ⟨g, 0, none⟩) q.l.length c) q.l := hr.below hb'
  obtain ⟨g', A4, c4, hAg, hg4, hcell, hfz, _, _⟩ := hR5.cell_ hx
  injection hAg with hAg
  injection hAg with hAg
  subst hAg
  have hP5 : PgAt B w5 P q := ⟨hP, _, hB5, hR5⟩
  have he : ElemAt B w5 (.slice (some ⟨g5, 0, none⟩) d.length c5) (some d) := ⟨g5, c5, rfl, hl5, hn5.mono hB⟩
  refine ⟨blk2b hB5, ⟨_, hcell⟩, hfz, hid ⟨hP5.setAt hB5 hR5 hk he, (hb'.mono hB).trans ((chg_set g k _).below (by have := hb'.size; omega) (fun i hi => by omega))⟩, blk2b (hB5.far (fun e => hgP e.symm) _)⟩

set_option maxHeartbeats 3200000 in
theorem put_any (A : Option Addr) (n c : Nat) (bs : List UInt8) (A2 : Option Addr) (n2 c2 : Nat) (d : List UInt8) (w : World) (hr : Rd w 1 A n (u8s bs)) (hn : n = bs.length) (hc : n ≤ c) (hr2 : Rd w 1 A2 n2 (u8s d)) (hn2 : n2 = d.length) :
    Calls Try.prog 9 #[.slice A n c, .slice A2 n2 c2] w fun e w' => ∃ v, e = .returned (.tuple #[.int .i64 (putB bs d).2.1, v, .int .i64 (putB bs d).1]) ∧ OutB w.heap.size w' v (obytes (putB bs d).2.2) ∧ Below w.heap.size w w' := by
  have H := hid (read_pg A n c bs w hr hn hc)
  obtain ⟨i23, hi23, hz0, hz1, hz2⟩ := info_parts info23
  have HR2 := hid hr2
  have HN2 := hid hn2
  clear hr hn hr2 hn2
  go_enter Try.func9, Try.ntmps9
  go_wp2_with fail
  refine H.out.mono ?_
  rintro e w1 ⟨A1, c1, rfl, hr1, hb1⟩
  have hpi := hid (page_in hr1 hb1.size)
  have HB1 := hid hb1
  have hbe := hid (HB1.out.trans (hpi.out.2.mono HB1.out.size))
  have hv := hid (pgD_valid bs)
  have hlen : (pgD bs).l.length ≤ 124 := hv.out.len
  clear hr1 hb1 H
  cases hp : pg bs with
  | none => as_aux_lemma =>
    have hg : Hid (putB bs d = (63, 0, none)) := hid (by rw [putB, hp])
    clear hp
    simp only [Option.isSome_none]
    go_wp2
    go_ret3
    rw [hg.out]
    exact ⟨.slice none 0 0, rfl, OutB.nil, hbe.out⟩
  | some q => as_aux_lemma =>
    have hq : Hid (putB bs d = putP (pgD bs) d) := hid (by rw [putB, hp, pgD_some hp])
    clear hp
    simp only [Option.isSome_some]
    by_cases h480 : 480 < n2
    · have hg : Hid (putB bs d = (1, 0, none)) := hid (by rw [hq.out, putP, if_pos (by have := HN2.out; omega)])
      go_wp2
      go_ret3
      rw [hg.out]
      exact ⟨.slice none 0 0, rfl, OutB.nil, hbe.out⟩
    · have pc1 := blk2b (Blk.new w1 55 #[.int .i64 (pgD bs).next, .slice A1 (pgD bs).l.length c1])
      generalize hw2 : w1.alloc (.cells #[.int .i64 (pgD bs).next, .slice A1 (pgD bs).l.length c1] 55) = w2
      rw [hw2] at hpi hbe pc1
      have hrow : RowAt w.heap.size w2 (.slice A1 (pgD bs).l.length c1) (pgD bs).l := by
        obtain ⟨_, lv, hb, hr⟩ := hpi.out.1
        have := hb.eq (by rw [← hw2]; exact Blk.new w1 55 _)
        simp at this
        rw [← this]
        exact hr
      have hbox : Blk w2 w1.heap.size 55 #[.int .i64 (pgD bs).next, .slice A1 (pgD bs).l.length c1] := by rw [← hw2]; exact Blk.new w1 55 _
      have HROW := hid hrow
      have HBOX := hid hbox
      have hidx := hid (index_any w.heap.size _ _ _ hrow (by omega))
      clear hrow hbox
      go_wp2_with fail
      refine hidx.out.mono ?_
      rintro e w3 ⟨rfl, rfl⟩
      clear hw2
      cases hh : hole (pgD bs).l with
      | some k => as_aux_lemma =>
        have hsp : Hid (spot (pgD bs).l = k ∧ widen (pgD bs).l = (pgD bs).l) := hid ⟨by rw [spot, hh]; rfl, by rw [widen, hh]⟩
        have hI : holeI (pgD bs).l = (k : Int) := by rw [holeI, hh]
        have hk := (hole_some hh).1
        have HX := hid (hole_some hh).2.1
        rw [hI]
        clear hI hh
        have hroom := hid (room_any w.heap.size w1.heap.size (pgD bs) _ hpi.out.1 (by omega) (by have := hv.out.fits.1; omega))
        have pf := hid trivial
        go_wp2_with fail
        refine hroom.out.mono ?_
        rintro e w4 ⟨rfl, rfl⟩
        by_cases hfit : 4 * (pgD bs).l.length + sum (pgD bs).l + n2 ≤ 498
        · have hg : Hid (putB bs d = (0, k, some ⟨(pgD bs).next, (pgD bs).l.set k (some d)⟩)) := hid (by
            have := HN2.out
            rw [hq.out, putP, hsp.out.2, hsp.out.1, if_neg (by omega), if_neg (by omega)])
          have hgd : Hid (Good ⟨(pgD bs).next, (pgD bs).l.set k (some d)⟩) := hid (by
            have h := good_put (d := d) hv.out (by have := HN2.out; omega) (by rw [hsp.out.2]; have := HN2.out; omega)
            rw [hsp.out.2, hsp.out.1] at h
            exact h)
          have hkr : (k : Int) < ((pgD bs).l.length : Int) := by omega
          have hf1 : (n2 : Int) ≤ 498 - 4 * ((pgD bs).l.length : Int) - (sum (pgD bs).l : Int) := by omega
          obtain ⟨g, A4, c4, hAg, hg4, hcell4, hfz4, _, _⟩ := HROW.out.cell_ HX.out
          subst hAg
          have hgP := HROW.out.ne HBOX.out g rfl
          have hrec := hid (record_any A2 n2 c2 d w4.drew (HR2.out.below hbe.out.drew) HN2.out (by omega))
          have hbw := hbe.out.size
          go_wp2_with fail
          go_region_held3 (fun w' => w'.cell? ⟨w1.heap.size, 1, none⟩ = some (.slice (some ⟨g, 0, none⟩) (pgD bs).l.length c1))
            (first
              | (exact hpc6)
              | (exact hpc5)
              | (exact pc1)
              | go_keep)
            (first
              | (refine hrec.out.mono ?_; rintro e w5 ⟨v5, rfl, he5, hb5⟩; obtain ⟨g5, c5, rfl, hl5, hn5⟩ := he5; obtain ⟨hpc5, ⟨vv, hc5⟩, hf5, HS5, hpc6⟩ := rec_in (q := ⟨(pgD bs).next, (pgD bs).l⟩) HBOX.out HROW.out HX.out hl5 hn5 hb5 hgP hbw HB1.out.size))
          clear hrec
          have hcall := hid (bytes_any w.heap.size w1.heap.size _ _ HS5.out.1 hgd.out)
          have hbe5 := hid (hbe.out.trans HS5.out.2)
          go_wp2_with fail
          refine hcall.out.mono ?_
          rintro e w6 ⟨g6, rfl, hg6, hblk, hp6, hc6⟩
          have HO := hid (bytesOut (base := w.heap.size) hgd.out.length (by have := hbe5.out.size; omega) hblk)
          have HB6 := hid (hbe5.out.trans (hc6.below hbe5.out.size (fun i hi => by have := HB1.out.size; omega)))
          clear hblk hp6 hc6
          go_wp2
          go_ret3
          rw [hg.out]
          exact ⟨_, by first | rfl | simp [Array.getD], HO.out, HB6.out⟩
        · have hg : Hid (putB bs d = (60, 0, none)) := hid (by
            have := HN2.out
            rw [hq.out, putP, hsp.out.2, if_neg (by omega), if_pos (by omega)])
          have hf1 : 498 - 4 * ((pgD bs).l.length : Int) - (sum (pgD bs).l : Int) < (n2 : Int) := by omega
          go_wp2
          go_ret3
          rw [hg.out]
          exact ⟨.slice none 0 0, rfl, OutB.nil, hbe.out⟩
      | none => as_aux_lemma =>
        have hsp : Hid (spot (pgD bs).l = (pgD bs).l.length ∧ widen (pgD bs).l = (pgD bs).l ++ [none]) := hid ⟨by rw [spot, hh]; rfl, by rw [widen, hh]⟩
        have hI : holeI (pgD bs).l = -1 := by rw [holeI, hh]
        rw [hI]
        clear hI hh
        have hla : (pgD bs).l.length ≤ 124 := hlen
        obtain ⟨ls, hown, hls⟩ := HROW.out
        have HY := hid (nil_alloc (v := .slice none 0 0) HBOX.out hown hls)
        have hbw := hbe.out.size
        have hsz : w.heap.size ≤ (w3.alloc (.cells #[.slice none 0 0] 23)).heap.size := by simp; omega
        clear hown hls
        go_wp2_with (at_builtin; refine wpList_append_any _ rfl (.tmp 28) (.tmp 29) 22 rfl w.heap.size 23 i23 _ 1 24 Try.underlying22 hi23 hz0 hz1 hz2 rfl (by omega) _ (pgD bs).l.length ls rfl HY.out.2.1 _ 1 1 _ rfl (rd_one1 _ _ _) (by simp [Value.oneCell']) (by unfold maxLen; omega) (by omega) hsz ?_)
        intro v5 w5 hown5 hg5 hat5
        obtain ⟨hb5, hp5, hk5⟩ := PgAt.push (x := none) hpi.out.1.lp HY.out.1 HY.out.2.1 HY.out.2.2 rfl hg5 hown5
        have hRW := RowAt.push (x := none) HY.out.2.1 HY.out.2.2 rfl hg5 hown5
        obtain ⟨L, hL⟩ : ∃ L, L = (pgD bs).l ++ [none] := ⟨_, rfl⟩
        have hLl : L.length = (pgD bs).l.length + 1 := by rw [hL]; simp
        rw [← hLl] at hown5
        rw [← hL] at hp5 hRW hsp
        have HX : Hid (L[(pgD bs).l.length]? = some none) := hid (by rw [hL]; simp)
        have hsL : Hid (sum L = sum (pgD bs).l) := hid (by rw [hL, sum_none])
        obtain ⟨A5, n5, rfl, _⟩ := own_form hown5
        have c5 := blk2b hb5
        have f5 := hb5.frozen 1
        have hB6 := hb5.set_ 1 (.slice A5 L.length n5)
        have HBOX6 : Hid (Blk (w5.setCell ⟨w1.heap.size, 1, none⟩ (.slice A5 L.length n5)) w1.heap.size 55 #[.int .i64 (pgD bs).next, .slice A5 L.length n5]) := hid (by simpa using hB6)
        have HROW6 : Hid (RowAt w.heap.size (w5.setCell ⟨w1.heap.size, 1, none⟩ (.slice A5 L.length n5)) (.slice A5 L.length n5) L) := hid (hRW.chg (chg_set w1.heap.size 1 (.slice A5 L.length n5)) (fun g e cs hk => by subst e; exact hk.ne_ hb5 (by decide) rfl) (hRW.ne hb5))
        have hbe6 : Hid (Below w.heap.size w (w5.setCell ⟨w1.heap.size, 1, none⟩ (.slice A5 L.length n5))) := hid (by
          have h1 : Below w.heap.size w3 (w3.alloc (.cells #[.slice none 0 0] 23)) := (Below.refl _ _).alloc hbw _
          have h2 : Below w.heap.size (w3.alloc (.cells #[.slice none 0 0] 23)) w5 := ⟨hg5.os, hg5.tape, hg5.output, hg5.size, hk5⟩
          exact (hbe.out.trans (h1.trans h2)).trans ((chg_set w1.heap.size 1 _).below (by have := hg5.size; omega) (fun i hi => by have := HB1.out.size; omega)))
        have HP6 := hid hp5
        have hv1 := hv.out.fits.1
        have hroom := hid (room_any w.heap.size w1.heap.size ⟨(pgD bs).next, L⟩ _ hp5 (by show L.length ≤ 1000; omega) (by show sum L ≤ 1000000; have := hsL.out; omega))
        have hL' := hid hL
        have hkL : (pgD bs).l.length < L.length := by omega
        have hL125 : L.length ≤ 125 := by omega
        clear hB6 hp5 hRW hown5 hg5 hat5 hk5 HY hL hb5 hLl
        go_wp2_with fail
        generalize hw6 : w5.setCell ⟨w1.heap.size, 1, none⟩ (.slice A5 L.length n5) = w6
        rw [hw6] at HBOX6 HROW6 hbe6 HP6 hroom
        have pc6 := blk2b HBOX6.out
        clear hw6 c5 f5
        go_wp2_with fail
        refine hroom.out.mono ?_
        rintro e w4 ⟨rfl, rfl⟩
        by_cases hfit : 4 * L.length + sum L + n2 ≤ 498
        · have hg : Hid (putB bs d = (0, (pgD bs).l.length, some ⟨(pgD bs).next, L.set (pgD bs).l.length (some d)⟩)) := hid (by
            have := HN2.out
            rw [hq.out, putP, hsp.out.2, hsp.out.1, if_neg (by omega), if_neg (by omega)])
          have hgd : Hid (Good ⟨(pgD bs).next, L.set (pgD bs).l.length (some d)⟩) := hid (by
            have h := good_put (d := d) hv.out (by have := HN2.out; omega) (by rw [hsp.out.2]; have := HN2.out; omega)
            rw [hsp.out.2, hsp.out.1] at h
            exact h)
          have hkr : ((pgD bs).l.length : Int) < (L.length : Int) := by omega
          have hf1 : (n2 : Int) ≤ 498 - 4 * (L.length : Int) - (sum L : Int) := by omega
          obtain ⟨g, A4, c4, hAg, hg4, hcell4, hfz4, _, _⟩ := HROW6.out.cell_ HX.out
          subst hAg
          have hgP := HROW6.out.ne HBOX6.out g rfl
          have hrec := hid (record_any A2 n2 c2 d w4.drew (HR2.out.below hbe6.out.drew) HN2.out (by omega))
          have hbw := hbe6.out.size
          go_wp2_with fail
          go_region_held3 (fun w' => w'.cell? ⟨w1.heap.size, 1, none⟩ = some (.slice (some ⟨g, 0, none⟩) L.length n5))
            (first
              | (exact hpc6)
              | (exact hpc5)
              | (exact pc6)
              | go_keep)
            (first
              | (refine hrec.out.mono ?_; rintro e w5 ⟨v5, rfl, he5, hb5⟩; obtain ⟨g5, c5, rfl, hl5, hn5⟩ := he5; obtain ⟨hpc5, ⟨vv, hc5⟩, hf5, HS5, hpc6⟩ := rec_in (q := ⟨(pgD bs).next, L⟩) HBOX6.out HROW6.out HX.out hl5 hn5 hb5 hgP hbw HB1.out.size))
          clear hrec
          have hcall := hid (bytes_any w.heap.size w1.heap.size _ _ HS5.out.1 hgd.out)
          have hbe5 := hid (hbe6.out.trans HS5.out.2)
          go_wp2_with fail
          refine hcall.out.mono ?_
          rintro e w6 ⟨g6, rfl, hg6, hblk, hp6, hc6⟩
          have HO := hid (bytesOut (base := w.heap.size) hgd.out.length (by have := hbe5.out.size; omega) hblk)
          have HB6 := hid (hbe5.out.trans (hc6.below hbe5.out.size (fun i hi => by have := HB1.out.size; omega)))
          clear hblk hp6 hc6
          go_wp2
          go_ret3
          rw [hg.out]
          exact ⟨_, by first | rfl | simp [Array.getD], HO.out, HB6.out⟩
        · have hg : Hid (putB bs d = (60, 0, none)) := hid (by
            have := HN2.out
            rw [hq.out, putP, hsp.out.2, if_neg (by omega), if_pos (by omega)])
          have hf1 : 498 - 4 * (L.length : Int) - (sum L : Int) < (n2 : Int) := by omega
          go_wp2
          go_ret3
          rw [hg.out]
          exact ⟨.slice none 0 0, rfl, OutB.nil, hbe6.out⟩
end Go.Proofs.Ytpdikmkhkiplbaa
