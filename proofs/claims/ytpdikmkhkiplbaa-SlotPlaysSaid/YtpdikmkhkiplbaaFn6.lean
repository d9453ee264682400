/- What package slot's Set answers. Conditions: none but what a slice is. -/
import Derived.Test.YtpdikmkhkiplbaaFn5
namespace Go.Proofs.Ytpdikmkhkiplbaa
open Go.RowKit
set_option maxRecDepth 100000
set_option linter.unusedVariables false
set_option linter.unusedSimpArgs false

/-- what Set answers: an error, or the page -/
def setP (q : MPage) (i : Int) (d : List UInt8) : Int × Option MPage :=
  if 480 < d.length then (1, none)
  else if q.has i then
    (if 498 < 4 * q.l.length + sum (q.l.set i.toNat (some d)) then (60, none) else (0, some ⟨q.next, q.l.set i.toNat (some d)⟩))
  else (61, none)
noncomputable def setB (bs : List UInt8) (i : Int) (d : List UInt8) : Int × Option MPage := match pg bs with | none => (63, none) | some q => setP q i d
theorem good_set {q : MPage} {k : Nat} {d : List UInt8} (hv : Valid q) (h1 : d.length ≤ 480) (h2 : 4 * q.l.length + sum (q.l.set k (some d)) ≤ 498) : Good ⟨q.next, q.l.set k (some d)⟩ := by
  have h5 := hv.len
  refine ⟨trim_fits (by rw [List.length_set]; exact h2) (fun r hr => ?_), hv.n1, hv.n2, by rw [List.length_set]; omega⟩
  rcases List.mem_or_eq_of_mem_set hr with h' | h'
  · exact hv.fits.2 r h'
  · injection h' with h'; subst h'; exact h1

set_option maxHeartbeats 3200000 in
theorem set_any (A : Option Addr) (n c : Nat) (bs : List UInt8) (i : Int) (A2 : Option Addr) (n2 c2 : Nat) (d : List UInt8) (w : World) (hr : Rd w 1 A n (u8s bs)) (hn : n = bs.length) (hc : n ≤ c) (hr2 : Rd w 1 A2 n2 (u8s d)) (hn2 : n2 = d.length) :
    Calls Try.prog 21 #[.slice A n c, .int .i64 i, .slice A2 n2 c2] w fun e w' => ∃ v, e = .returned (.tuple #[v, .int .i64 (setB bs i d).1]) ∧ OutB w.heap.size w' v (obytes (setB bs i d).2) ∧ Below w.heap.size w w' := by
  have H := hid (read_pg A n c bs w hr hn hc)
  have HR2 := hid hr2
  have HN2 := hid hn2
  clear hr hn hr2 hn2
  go_enter Try.func21, Try.ntmps21
  go_wp2_with fail
  refine H.out.mono ?_
  rintro e w1 ⟨A1, c1, rfl, hr1, hb1⟩
  have hpi := hid (page_in hr1 hb1.size)
  have HB1 := hid hb1
  have hbe := hid (HB1.out.trans (hpi.out.2.mono HB1.out.size))
  have hv := hid (pgD_valid bs)
  have hlen : (pgD bs).l.length ≤ 124 := hv.out.len
  have hhas := hid (has_any w.heap.size w1.heap.size (pgD bs) i _ hpi.out.1)
  clear hr1 hb1 H
  cases hp : pg bs with
  | none => as_aux_lemma =>
    have hg : Hid (setB bs i d = (63, none)) := hid (by rw [setB, hp])
    clear hp
    simp only [Option.isSome_none]
    go_wp2
    go_ret2
    rw [hg.out]
    exact ⟨.slice none 0 0, rfl, OutB.nil, hbe.out⟩
  | some q => as_aux_lemma =>
    have hq : Hid (setB bs i d = setP (pgD bs) i d) := hid (by rw [setB, hp, pgD_some hp])
    clear hp
    simp only [Option.isSome_some]
    by_cases h480 : 480 < n2
    · have hg : Hid (setB bs i d = (1, none)) := hid (by rw [hq.out, setP, if_pos (by have := HN2.out; omega)])
      go_wp2
      go_ret2
      rw [hg.out]
      exact ⟨.slice none 0 0, rfl, OutB.nil, hbe.out⟩
    · cases hh : (pgD bs).has i with
      | false =>
        have hg : Hid (setB bs i d = (61, none)) := hid (by rw [hq.out, setP, if_neg (by have := HN2.out; omega), hh]; rfl)
        rw [hh] at hhas
        clear hh
        go_wp2_with fail
        refine hhas.out.mono ?_
        rintro e w3 ⟨rfl, rfl⟩
        go_wp2
        go_ret2
        rw [hg.out]
        exact ⟨.slice none 0 0, rfl, OutB.nil, hbe.out⟩
      | true =>
        obtain ⟨k, r, rfl, hx⟩ := has_rec hh
        have pc1 := blk2b (Blk.new w1 55 #[.int .i64 (pgD bs).next, .slice A1 (pgD bs).l.length c1])
        generalize hw2 : w1.alloc (.cells #[.int .i64 (pgD bs).next, .slice A1 (pgD bs).l.length c1] 55) = w2
        rw [hw2] at hpi hbe pc1 hhas
        have hrow : RowAt w.heap.size w2 (.slice A1 (pgD bs).l.length c1) (pgD bs).l := by
          obtain ⟨_, lv, hb, hr⟩ := hpi.out.1
          have := hb.eq (by rw [← hw2]; exact Blk.new w1 55 _)
          simp at this
          rw [← this]
          exact hr
        have HBOX : Hid (Blk w2 w1.heap.size 55 #[.int .i64 (pgD bs).next, .slice A1 (pgD bs).l.length c1]) := hid (by rw [← hw2]; exact Blk.new w1 55 _)
        have hk := (List.getElem?_eq_some_iff.1 hx).1
        have hkl' : (k : Int) < ((pgD bs).l.length : Int) := by omega
        obtain ⟨g, A4, c4, rfl, hg4, hcell4, hfz4, _, _⟩ := hrow.cell_ hx
        simp only [Option.getD_some] at hcell4
        have HROW := hid hrow
        have HX := hid hx
        have hsum := hid (sum_set (pgD bs).l k (some r) (some d) hx)
        have hv1 := hv.out.fits.1
        have hs1 : r.length ≤ sum (pgD bs).l := by
          have := sum_set (pgD bs).l k (some r) none hx
          simp at this
          omega
        have hroom := hid (room_any w.heap.size w1.heap.size (pgD bs) w2.drew (hpi.out.1.fresh (Below.refl _ _).drew) (by omega) (by omega))
        rw [hh] at hhas
        clear hh hrow hx
        go_wp2_with fail
        refine hhas.out.mono ?_
        rintro e w3 ⟨rfl, rfl⟩
        clear hw2
        by_cases hfit : 4 * (pgD bs).l.length + sum ((pgD bs).l.set k (some d)) ≤ 498
        · as_aux_lemma =>
          have hg : Hid (setB bs (k : Int) d = (0, some ⟨(pgD bs).next, (pgD bs).l.set k (some d)⟩)) := hid (by
            rw [hq.out, setP, if_neg (by have := HN2.out; omega), if_pos (has_of HX.out), if_neg (by simp only [Int.toNat_natCast]; omega)]; rfl)
          have hgd := hid (good_set (k := k) (d := d) hv.out (by have := HN2.out; omega) hfit)
          have hf1 : (n2 : Int) ≤ 498 - 4 * ((pgD bs).l.length : Int) - (sum (pgD bs).l : Int) + (r.length : Int) := by
            have h1 := hsum.out
            have h2 := HN2.out
            simp only [Option.getD_some] at h1
            omega
          have hwr : IntKind.i64.wrap (498 - 4 * ((pgD bs).l.length : Int) - (sum (pgD bs).l : Int) + (r.length : Int)) = 498 - 4 * ((pgD bs).l.length : Int) - (sum (pgD bs).l : Int) + (r.length : Int) := by rw [IntKind.wrap_i64]; omega
          go_wp2_with fail
          go_region_held3 (fun w' => w'.cell? ⟨w1.heap.size, 1, none⟩ = some (.slice (some ⟨g, 0, none⟩) (pgD bs).l.length c1) ∧ w'.cell? ⟨g, k, none⟩ = some (.slice A4 r.length c4))
            (first
              | (exact ⟨pc1, hcell4⟩)
              | go_keep)
            (first
              | (go_simp; refine hroom.out.mono ?_; rintro e w5 ⟨rfl, rfl⟩))
          clear hwr
          have HBOXd := hid HBOX.out.drew
          have HROWd := hid (HROW.out.below (Below.refl _ w3).drew)
          have hbed := hid hbe.out.drew
          have hgP := HROWd.out.ne HBOXd.out g rfl
          have hrec := hid (record_any A2 n2 c2 d w3.drew.drew (HR2.out.below hbed.out.drew) HN2.out (by omega))
          have hbw := hbed.out.size
          go_wp2_with fail
          go_region_held3 (fun w' => w'.cell? ⟨w1.heap.size, 1, none⟩ = some (.slice (some ⟨g, 0, none⟩) (pgD bs).l.length c1))
            (first
              | (exact hpc6)
              | (exact hpc5)
              | (exact pc1)
              | go_keep)
            (first
              | (refine hrec.out.mono ?_; rintro e w5 ⟨v5, rfl, he5, hb5⟩; obtain ⟨g5, c5, rfl, hl5, hn5⟩ := he5; obtain ⟨hpc5, ⟨vv, hc5⟩, hf5, HS5, hpc6⟩ := rec_in (q := ⟨(pgD bs).next, (pgD bs).l⟩) HBOXd.out HROWd.out HX.out hl5 hn5 hb5 hgP hbw HB1.out.size))
          clear hrec
          have hcall := hid (bytes_any w.heap.size w1.heap.size _ _ HS5.out.1 hgd.out)
          have hbe5 := hid (hbed.out.trans HS5.out.2)
          go_wp2_with fail
          refine hcall.out.mono ?_
          rintro e w6 ⟨g6, rfl, hg6, hblk, hp6, hc6⟩
          have HO := hid (bytesOut (base := w.heap.size) hgd.out.length (by have := hbe5.out.size; omega) hblk)
          have HB6 := hid (hbe5.out.trans (hc6.below hbe5.out.size (fun i hi => by have := HB1.out.size; omega)))
          clear hblk hp6 hc6
          go_wp2
          go_ret2
          rw [hg.out]
          exact ⟨_, by first | rfl | simp [Array.getD], HO.out, HB6.out⟩
        · as_aux_lemma =>
          have hg : Hid (setB bs (k : Int) d = (60, none)) := hid (by
            rw [hq.out, setP, if_neg (by have := HN2.out; omega), if_pos (has_of HX.out), if_pos (by simp only [Int.toNat_natCast]; omega)])
          have hf1 : 498 - 4 * ((pgD bs).l.length : Int) - (sum (pgD bs).l : Int) + (r.length : Int) < (n2 : Int) := by
            have h1 := hsum.out
            have h2 := HN2.out
            simp only [Option.getD_some] at h1
            omega
          have hwr : IntKind.i64.wrap (498 - 4 * ((pgD bs).l.length : Int) - (sum (pgD bs).l : Int) + (r.length : Int)) = 498 - 4 * ((pgD bs).l.length : Int) - (sum (pgD bs).l : Int) + (r.length : Int) := by rw [IntKind.wrap_i64]; omega
          go_wp2_with fail
          go_region_held3 (fun w' => w'.cell? ⟨w1.heap.size, 1, none⟩ = some (.slice (some ⟨g, 0, none⟩) (pgD bs).l.length c1) ∧ w'.cell? ⟨g, k, none⟩ = some (.slice A4 r.length c4))
            (first
              | (exact ⟨pc1, hcell4⟩)
              | go_keep)
            (first
              | (go_simp; refine hroom.out.mono ?_; rintro e w5 ⟨rfl, rfl⟩))
          go_wp2
          go_ret2
          rw [hg.out]
          exact ⟨.slice none 0 0, rfl, OutB.nil, hbe.out.drew⟩
end Go.Proofs.Ytpdikmkhkiplbaa
