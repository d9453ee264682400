/- The walk of SlotNext. No conditions. -/
import Derived.Test.YtpdikmkhkiplbaaFil
import Derived.Test.YtpdikmkhkiplbaaArg
namespace Go.Proofs.Ytpdikmkhkiplbaa
open Go.RowKit
set_option maxRecDepth 100000
set_option linter.unusedVariables false
set_option linter.unusedSimpArgs false

/-- a slot that is told has a record -/
theorem slot_rec {m : MPage} (hv : Valid m) {x : Nat} (hx : x ∈ slotsB m.bytes) : ∃ r, getB m.bytes (x : Int) = some r ∧ m.l[x]? = some (some r) := by
  rw [slotsB, hv.pgD] at hx
  obtain ⟨r, hr⟩ := idx_has m.l m.l.length (Nat.le_refl _) x hx
  refine ⟨r, ?_, hr⟩
  rw [getB, hv.pg, hv.pgD, has_of hr]
  simp [List.getD_eq_getElem?_getD, hr]
/-- any number is turned into an index -/
theorem wrap_idx (z : Int) (n : Nat) (hn : 0 < n) : ∃ j : Nat, j < n ∧ (z.tmod n + n).tmod n = (j : Int) ∧ (-(n : Int) < z.tmod n ∧ z.tmod n < n) := by
  have h1 := Int.tmod_lt_of_pos z (show (0 : Int) < (n : Int) by omega)
  have h2 : -(n : Int) < z.tmod n := by
    have h5 := Int.tmod_lt_of_pos (-z) (show (0 : Int) < (n : Int) by omega)
    rw [Int.neg_tmod] at h5
    omega
  have h3 : 0 ≤ (z.tmod n + n).tmod n := Int.tmod_nonneg _ (by omega)
  have h4 := Int.tmod_lt_of_pos (z.tmod n + n) (show (0 : Int) < (n : Int) by omega)
  exact ⟨((z.tmod n + n).tmod n).toNat, by omega, by omega, h2, h1⟩

/-- a page that Puts have filled -/
structure NexS (w wr : World) (v : Value) (m : MPage) : Prop where
  be : Below w.heap.size w wr
  va : Valid m
  nx : m.next = 0
  p : OutB w.heap.size wr v m.bytes
theorem NexS.below {w wr w' : World} {v : Value} {m : MPage} (h : NexS w wr v m) (hb : Below wr.heap.size wr w') : NexS w w' v m := ⟨h.be.trans (hb.mono h.be.size), h.va, h.nx, h.p.below hb⟩

set_option maxHeartbeats 6400000 in
theorem next_law (A0 : Option Addr) (n0 c0 : Nat) (z1 z2 : Int) (w : World) (h0 : RowsAt w A0 n0) (l0 : n0 ≤ 9223372036854775807) (hz1 : -9223372036854775808 ≤ z1 ∧ z1 ≤ 9223372036854775807) (hz2 : -9223372036854775808 ≤ z2 ∧ z2 ≤ 9223372036854775807) :
    Calls Try.prog 3 #[.slice A0 n0 c0, .int .i64 z1, .int .i64 z2] w fun e w' => e = .returned (.bool true) ∧ Below w.heap.size w w' := by
  have H0 := hid h0
  have hnew := hid (new_any w)
  have HZ2 := hid hz2
  clear h0 hz2
  go_enter Try.func3, Try.ntmps3
  go_wp2_with fail
  refine hnew.out.mono ?_
  rintro e w1 ⟨v1, rfl, ho1, hb1⟩
  obtain ⟨A2, c2, rfl, HO1⟩ := ho1.split
  have HS0 : Hid (NexS w w1 (.slice A2 (MPage.bytes ⟨0, []⟩).length c2) ⟨0, []⟩) := hid ⟨hb1, valid_new, rfl, HO1.out⟩
  have hl1 : (MPage.bytes ⟨0, []⟩).length = 504 := valid_new.length
  rw [hl1] at HS0 ⊢
  clear ho1 hb1 HO1 hnew
  go_upto_block 0 with fail
  go_cut [7] (fun p wx => ∃ (m : MPage) (A2 : Option Addr) (c2 : Nat), p = .slice A2 504 c2 ∧ NexS w wx (.slice A2 504 c2) m)
  case first => as_aux_lemma =>
    go_wp2_with fail
    go_loopw [7, 8] (fun p i wr => ∃ (k : Nat) (m : MPage) (A2 : Option Addr) (c2 : Nat), k ≤ 15 ∧ i = .int .i64 k ∧ p = .slice A2 504 c2 ∧ NexS w wr (.slice A2 504 c2) m) (fun _ i _ => 15 - (intOf i).toNat)
    case atStart => exact ⟨0, ⟨0, []⟩, A2, c2, by omega, rfl, rfl, HS0.out⟩
    case round => as_aux_lemma =>
      obtain ⟨k, m, A2, c2, hk, rfl, rfl, hS⟩ := hrel
      have HS := hid hS
      have hm504 : m.bytes.length = 504 := hS.va.length
      clear HS0
      by_cases hgo : k < n0 ∧ k < 15
      · as_aux_lemma =>
        obtain ⟨hk0, hk20⟩ := hgo
        have hk0' : (k : Int) < (n0 : Int) := by omega
        have hk20' : (k : Int) < 15 := by omega
        obtain ⟨b, o, A4, c4, d, rfl, hb, hcell, hrd, hdc⟩ := (H0.out.below hS.be).lit hk0
        have hput := hid (put_v (c2 := c4) HS.out.p hrd rfl)
        have hpc := hid (put_cases HS.out.va d)
        clear hrd hS
        go_wp2_with fail
        refine hput.out.mono ?_
        rintro e w3 ⟨v3, rfl, ho3, hb3⟩
        obtain ⟨A5, c5, rfl, HO3⟩ := ho3.split
        have HS3 := hid (HS.out.below hb3)
        clear ho3 hb3 hput hcell
        rcases hpc.out with ⟨e, he, hpe, _⟩ | ⟨hpe, hv, _, _⟩
        · rw [hpe]
          have hne : (e == 0) = false := by simpa using he
          clear hpc hpe
          go_wp2
          go_roundw
          case rel => exact ⟨k + 1, m, A2, c2, by omega, by go_num, rfl, HS3.out⟩
          case measure => simp [intOf]; omega
        · rw [hpe] at HO3 ⊢
          have e504 : (obytes (some (m.put d))).length = 504 := hv.length
          rw [e504] at HO3 ⊢
          have HS4 : Hid (NexS w w3 (.slice A5 504 c5) (m.put d)) := hid ⟨HS3.out.be, hv, HS.out.nx, HO3.out.mono HS.out.be.size⟩
          clear hpc hpe
          go_wp2
          go_roundw
          case rel => exact ⟨k + 1, m.put d, A5, c5, by omega, by go_num, rfl, HS4.out⟩
          case measure => simp [intOf]; omega
      · by_cases hk0 : k < n0
        · have hk0' : (k : Int) < (n0 : Int) := by omega
          have hk20' : ¬ ((k : Int) < 15) := by omega
          clear hgo hS
          go_wp2
          go_meet
          exact ⟨m, A2, c2, rfl, HS.out⟩
        · have hk0' : ¬ ((k : Int) < (n0 : Int)) := by omega
          clear hgo hS
          go_wp2
          go_meet
          exact ⟨m, A2, c2, rfl, HS.out⟩
  case rest => as_aux_lemma =>
    obtain ⟨m, A2, c2, rfl, hS⟩ := hcut
    have HS := hid hS
    have hm504 : m.bytes.length = 504 := hS.va.length
    clear hS HS0
    have hsn := hid (setNext_v HS.out.p z1 (by omega))
    have hsv := setNext_valid HS.out.va z1
    obtain ⟨mq, hmq, hvq, hlq, hg1, hg2⟩ : ∃ mq : MPage, setNextB m.bytes z1 = mq.bytes ∧ Valid mq ∧ mq.l = m.l ∧ (0 ≤ z1 ∧ z1 < 4294967296 → mq.next = z1) ∧ (¬ (0 ≤ z1 ∧ z1 < 4294967296) → mq = m) := by
      by_cases hg : 0 ≤ z1 ∧ z1 < 4294967296
      · refine ⟨⟨z1, m.l⟩, by rw [hsv, if_pos ⟨hg.1, by omega⟩], (slots_next HS.out.va z1 hg.1 hg.2).1, rfl, fun _ => rfl, fun h => absurd hg h⟩
      · refine ⟨m, by rw [hsv, if_neg (fun h => hg ⟨h.1, by omega⟩)], HS.out.va, rfl, fun h => absurd h hg, fun _ => rfl⟩
    rw [hmq] at hsn
    have hqs : slotsB mq.bytes = slotsB m.bytes := by rw [slotsB, slotsB, hvq.pgD, HS.out.va.pgD, hlq]
    have hqf : freeB mq.bytes = freeB m.bytes := by rw [freeB, freeB, hvq.pg, HS.out.va.pg]; simp only [hlq]
    have hqg : ∀ i, getB mq.bytes i = getB m.bytes i := fun i => by rw [getB, getB, hvq.pg, hvq.pgD, HS.out.va.pg, HS.out.va.pgD, MPage.has, MPage.has, hlq]; rfl
    have HQS := hid hqs
    have HQF := hid hqf
    have HQG := hid hqg
    have HVQ := hid hvq
    have hq504 : mq.bytes.length = 504 := hvq.length
    clear hsv hmq hqs hqf hqg hvq
    go_wp2_with fail
    refine hsn.out.mono ?_
    rintro e w3 ⟨v3, rfl, ho3, hb3⟩
    obtain ⟨A5, c5, rfl, HO3⟩ := ho3.split
    rw [hq504] at HO3 ⊢
    have HS3 := hid (HS.out.below hb3)
    have HQ3 := hid (HO3.out.mono HS.out.be.size)
    have hnx := hid (next_v HQ3.out)
    rw [HVQ.out.pgD] at hnx
    clear ho3 hb3 hsn HO3
    have hgg1 := hid hg1
    have hgg2 := hid hg2
    obtain ⟨gb, hgb⟩ : ∃ gb, gb = decide (0 ≤ z1 ∧ z1 < 4294967296) := ⟨_, rfl⟩
    clear hg1 hg2
    go_upto_region 9 with fail
    go_cut [13] (fun v wx => v = .bool gb ∧ NexS w wx (.slice A2 504 c2) m ∧ OutB w.heap.size wx (.slice A5 504 c5) mq.bytes)
    case first => as_aux_lemma =>
      by_cases g0 : 0 ≤ z1
      · by_cases g1 : z1 < 4294967296
        · have hx : gb = true := by rw [hgb]; simp [g0, g1]
          go_wp2
          go_meet
          exact ⟨by rw [hx], HS3.out, HQ3.out⟩
        · have hx : gb = false := by rw [hgb]; simp [g1]
          go_wp2
          go_meet
          exact ⟨by rw [hx], HS3.out, HQ3.out⟩
      · have hx : gb = false := by rw [hgb]; simp [g0]
        go_wp2
        go_meet
        exact ⟨by rw [hx], HS3.out, HQ3.out⟩
    case rest => as_aux_lemma =>
    obtain ⟨rfl, hS, hO⟩ := hcut
    have HS3 := hid hS
    have HQ3 := hid hO
    have hnx := hid (next_v HQ3.out)
    rw [HVQ.out.pgD] at hnx
    clear hS hO
    go_upto_region 10 with fail
    go_cut [13, 92] (fun _ v wx => v = .bool false ∧ NexS w wx (.slice A2 504 c2) m ∧ OutB w.heap.size wx (.slice A5 504 c5) mq.bytes)
    case first => as_aux_lemma =>
      by_cases hgood : 0 ≤ z1 ∧ z1 < 4294967296
      · have hx : gb = true := by rw [hgb]; simp [hgood]
        have hnq := hgg1.out hgood
        rw [hnq] at hnx
        rw [hx]
        clear hgood hgb hx
        go_wp2_with fail
        refine hnx.out.mono ?_
        rintro e w4 ⟨rfl, hb4⟩
        have HS4 := hid (HS3.out.below hb4)
        have HQ4 := hid (HQ3.out.below hb4)
        have hck := hid (check_v HQ4.out)
        rw [HVQ.out.pg] at hck
        clear hb4 hnx
        go_wp2_with fail
        refine hck.out.mono ?_
        rintro e w5 ⟨rfl, hb5⟩
        have HS5 := hid (HS4.out.below hb5)
        have HQ5 := hid (HQ4.out.below hb5)
        have hf1 := hid (free_v HQ5.out)
        clear hb5 hck
        go_wp2_with fail
        refine hf1.out.mono ?_
        rintro e w6 ⟨rfl, hb6⟩
        have HS6 := hid (HS5.out.below hb6)
        have HQ6 := hid (HQ5.out.below hb6)
        have hf2 := hid (free_v HS6.out.p)
        try rw [← HQF.out] at hf2
        clear hb6 hf1
        go_wp2_with fail
        refine hf2.out.mono ?_
        rintro e w7 ⟨rfl, hb7⟩
        have HS7 := hid (HS6.out.below hb7)
        have HQ7 := hid (HQ6.out.below hb7)
        have hs1 := hid (slots_v HQ7.out)
        clear hb7 hf2
        go_wp2_with fail
        refine hs1.out.mono ?_
        rintro e w8 ⟨v8, rfl, ⟨A8, c8, rfl, _, _⟩, hb8⟩
        have HS8 := hid (HS7.out.below hb8)
        have HQ8 := hid (HQ7.out.below hb8)
        have hs2 := hid (slots_v HS8.out.p)
        try rw [← HQS.out] at hs2
        clear hb8 hs1
        go_wp2_with fail
        refine hs2.out.mono ?_
        rintro e w9 ⟨v9, rfl, ⟨A9, c9, rfl, _, _⟩, hb9⟩
        have HS9 := hid (HS8.out.below hb9)
        have HQ9 := hid (HQ8.out.below hb9)
        clear hb9 hs2
        go_wp2
        go_meet
        exact ⟨by first | rfl | simp, HS9.out, HQ9.out⟩
      · have hnm := hgg2.out hgood
        subst hnm
        have hzn : z1 ≠ 0 := by rintro rfl; exact hgood ⟨by omega, by omega⟩
        have hzn2 : (0 == z1) = false := by simp; exact fun h => hzn h.symm
        rw [HS.out.nx] at hnx
        have hx : gb = false := by rw [hgb]; simpa using hgood
        rw [hx]
        clear hgood hgb hx
        go_wp2_with fail
        refine hnx.out.mono ?_
        rintro e w4 ⟨rfl, hb4⟩
        have HS4 := hid (HS3.out.below hb4)
        have HQ4 := hid (HQ3.out.below hb4)
        have hck := hid (check_v HQ4.out)
        rw [HVQ.out.pg] at hck
        have s3 := str_v HS4.out.p
        have s4 := str_v HQ4.out
        clear hb4 hnx
        go_wp2_with fail
        refine hck.out.mono ?_
        rintro e w5 ⟨rfl, hb5⟩
        have HS5 := hid (HS4.out.below hb5)
        have HQ5 := hid (HQ4.out.below hb5)
        have hf1 := hid (free_v HQ5.out)
        clear hb5 hck
        go_wp2_with fail
        refine hf1.out.mono ?_
        rintro e w6 ⟨rfl, hb6⟩
        have HS6 := hid (HS5.out.below hb6)
        have HQ6 := hid (HQ5.out.below hb6)
        have hf2 := hid (free_v HS6.out.p)
        try rw [← HQF.out] at hf2
        clear hb6 hf1
        go_wp2_with fail
        refine hf2.out.mono ?_
        rintro e w7 ⟨rfl, hb7⟩
        have HS7 := hid (HS6.out.below hb7)
        have HQ7 := hid (HQ6.out.below hb7)
        have hs1 := hid (slots_v HQ7.out)
        clear hb7 hf2
        go_wp2_with fail
        refine hs1.out.mono ?_
        rintro e w8 ⟨v8, rfl, ⟨A8, c8, rfl, _, _⟩, hb8⟩
        have HS8 := hid (HS7.out.below hb8)
        have HQ8 := hid (HQ7.out.below hb8)
        have hs2 := hid (slots_v HS8.out.p)
        try rw [← HQS.out] at hs2
        clear hb8 hs1
        go_wp2_with fail
        refine hs2.out.mono ?_
        rintro e w9 ⟨v9, rfl, ⟨A9, c9, rfl, _, _⟩, hb9⟩
        have HS9 := hid (HS8.out.below hb9)
        have HQ9 := hid (HQ8.out.below hb9)
        clear hb9 hs2
        go_wp2
        go_meet
        exact ⟨by first | rfl | simp, HS9.out, HQ9.out⟩
    case rest => as_aux_lemma =>
      obtain ⟨rfl, hS, hO⟩ := hcut
      have HS4 := hid hS
      have HQ4 := hid hO
      have hsl := hid (slots_v HQ4.out)
      have hlen : (slotsB mq.bytes).length ≤ 124 := by
        have h1 := length_idx (pgD mq.bytes).l (pgD mq.bytes).l.length
        have h2 := (pgD_valid mq.bytes).len
        show (idx _ _).length ≤ 124
        omega
      have hslot := hid (fun x hx => slot_rec HVQ.out (x := x) hx)
      clear hS hO hgg1 hgg2 HQF hnx HS3 HQ3 H0 HS
      generalize hxs : slotsB mq.bytes = xs at *
      clear hxs
      go_wp2_with fail
      refine hsl.out.mono ?_
      rintro e w5 ⟨v5, rfl, ⟨A8, c8, rfl, hl8, hn8⟩, hb5⟩
      have HS5 := hid (HS4.out.below hb5)
      have HQ5 := hid (HQ4.out.below hb5)
      have HN5 := hid (hn8.mono (Nat.le_trans HS4.out.be.size (Nat.le_refl _)))
      clear hn8 hb5 hsl HS4 HQ4
      go_upto_block 2 with fail
      go_cut [] (fun wx => NexS w wx (.slice A2 504 c2) m ∧ OutB w.heap.size wx (.slice A5 504 c5) mq.bytes ∧ NewRow w.heap.size wx 3 1 A8 xs.length (ints xs))
      case first => as_aux_lemma =>
        go_wp2_with fail
        go_loopw [15] (fun i wr => ∃ (k : Nat), k ≤ xs.length ∧ i = .int .i64 k ∧ NexS w wr (.slice A2 504 c2) m ∧ OutB w.heap.size wr (.slice A5 504 c5) mq.bytes ∧ NewRow w.heap.size wr 3 1 A8 xs.length (ints xs)) (fun i _ => xs.length - (intOf i).toNat)
        case atStart => exact ⟨0, by omega, rfl, HS5.out, HQ5.out, HN5.out⟩
        case round => as_aux_lemma =>
          obtain ⟨k, hk, rfl, hS, hO, hN⟩ := hrel
          have HS6 := hid hS
          have HQ6 := hid hO
          have HN6 := hid hN
          clear hS hO HS5 HQ5 HN5
          by_cases hlt : k < xs.length
          · obtain ⟨b, o, rfl, hb, hcs⟩ := hN.rd.lit (by omega)
            obtain ⟨x, hx⟩ : ∃ x, xs[k]? = some x := ⟨_, List.getElem?_eq_getElem hlt⟩
            have hcell := hcs k (.int .i64 x) (by simp [ints, hx])
            obtain ⟨r, hr1, hr2⟩ := hslot.out x (List.mem_of_getElem? hx)
            have hg1 := hid (get_v HS6.out.p (x : Int))
            rw [← HQG.out, hr1] at hg1
            have hlt' : (k : Int) < (xs.length : Int) := by omega
            have hbw : b < wr.heap.size := hb
            clear hcs hN hx
            go_wp2_with fail
            refine hg1.out.mono ?_
            rintro e w6 ⟨v6, rfl, ho6, hb6⟩
            obtain ⟨A9, c9, rfl, HO9⟩ := ho6.split
            have HS7 := hid (HS6.out.below hb6)
            have HQ7 := hid (HQ6.out.below hb6)
            have HN7 := hid (HN6.out.below hb6)
            have hcell2 : w6.cell? ⟨b, o + k, none⟩ = some (.int .i64 x) := (hb6.cell (p := ⟨b, o + k, none⟩) hbw).trans hcell
            have hg2 := hid (get_v HQ7.out (x : Int))
            rw [hr1] at hg2
            clear ho6 hb6 hg1 hcell
            simp only [Option.getD_some, Option.isSome_some] at *
            go_wp2_with fail
            refine hg2.out.mono ?_
            rintro e w7 ⟨v7, rfl, ho7, hb7⟩
            obtain ⟨A10, c10, rfl, HO10⟩ := ho7.split
            have HS8 := hid (HS7.out.below hb7)
            have HQ8 := hid (HQ7.out.below hb7)
            have HN8 := hid (HN7.out.below hb7)
            have s3 := str_v (HO9.out.below hb7)
            have s4 := str_v HO10.out
            clear ho7 hb7 hg2 hcell2
            go_wp2
            go_roundw
            case rel => exact ⟨k + 1, by omega, by go_num, HS8.out, HQ8.out, HN8.out⟩
            case measure => simp [intOf]; omega
          · have hlt' : ¬ ((k : Int) < (xs.length : Int)) := by omega
            clear hN
            go_wp2
            go_meet
            exact ⟨HS6.out, HQ6.out, HN6.out⟩
      case rest => as_aux_lemma =>
        obtain ⟨hS, hO, hN⟩ := hcut
        have HS6 := hid hS
        have HQ6 := hid hO
        have HN6 := hid hN
        clear hS hO HS5 HQ5 HN5
        by_cases hpos : 0 < xs.length
        · obtain ⟨b, o, rfl, hb, hcs⟩ := hN.rd.lit hpos
          obtain ⟨j, hj, hj1⟩ := wrap_idx z2 xs.length hpos
          have hb1 := HZ2.out
          obtain ⟨hj2, hj3⟩ := hj1
          obtain ⟨x, hx⟩ : ∃ x, xs[j]? = some x := ⟨_, List.getElem?_eq_getElem hj⟩
          have hcell := hcs j (.int .i64 x) (by simp [ints, hx])
          obtain ⟨r, hr1, hr2⟩ := hslot.out x (List.mem_of_getElem? hx)
          have hdel := hid (del_v HQ6.out (x : Int))
          obtain ⟨hd1, hd2⟩ := del_next HVQ.out hr2
          rw [hd1] at hdel
          have HD2 := hid hd2
          have hpos' : (0 : Int) < (xs.length : Int) := by omega
          have hjl : (j : Int) < (xs.length : Int) := by omega
          clear hcs hN hx hd1 hd2
          go_wp2_with fail
          refine hdel.out.mono ?_
          rintro e w6 ⟨v6, rfl, ho6, hb6⟩
          obtain ⟨A9, c9, rfl, HO9⟩ := ho6.split
          have HS7 := hid (HS6.out.below hb6)
          have HQ7 := hid (HQ6.out.below hb6)
          have hn1 := hid (next_v HO9.out)
          rw [HD2.out] at hn1
          clear ho6 hb6 hdel hcell
          go_wp2_with fail
          refine hn1.out.mono ?_
          rintro e w7 ⟨rfl, hb7⟩
          have HS8 := hid (HS7.out.below hb7)
          have HQ8 := hid (HQ7.out.below hb7)
          have hn2 := hid (next_v HQ8.out)
          rw [HVQ.out.pgD] at hn2
          clear hb7 hn1
          go_wp2_with fail
          refine hn2.out.mono ?_
          rintro e wz ⟨rfl, hb8⟩
          have HSz := hid (HS8.out.below hb8)
          have HQz := hid (HQ8.out.below hb8)
          clear hb8 hn2
          go_wp2_with fail
          refine wp_region_held_drew (S := fun w' => Below wz.heap.size wz w') (by kernel_rfl) (by exact (Below.refl _ _).drew) (fun hHeld => ?_)
          refine wpAnyH_take (i := 0) (oi := { dst := some 158, op := Op.move (Operand.tmp 12), type := 23, pos := _, after := #[], guard := none }) (v := ?_) rfl (by kernel_rfl) (by kernel_rfl) (by kernel_rfl) (fun _ _ _ h => h) (Or.inl ⟨by rfl, ?_⟩) (by assumption) ?_
          rotate_left
          · (intro w' hSw; (try dsimp only at hSw); go_simp; try with_reducible rfl)
          try simp only [Act.put, List.setIfInBounds_toArray, List.set_cons_zero, List.set_cons_succ]
          refine wpAnyH_take (i := 1) (oi := { dst := some 159, op := Op.move (Operand.tmp 7), type := 23, pos := _, after := #[], guard := none }) (v := ?_) rfl (by kernel_rfl) (by kernel_rfl) (by kernel_rfl) (fun _ _ _ h => h) (Or.inl ⟨by rfl, ?_⟩) (by assumption) ?_
          rotate_left
          · (intro w' hSw; (try dsimp only at hSw); go_simp; try with_reducible rfl)
          try simp only [Act.put, List.setIfInBounds_toArray, List.set_cons_zero, List.set_cons_succ]
          refine wpAnyH_take (i := 5) (oi := { dst := some 163, op := Op.move (Operand.tmp 7), type := 23, pos := _, after := #[], guard := none }) (v := ?_) rfl (by kernel_rfl) (by kernel_rfl) (by kernel_rfl) (fun _ _ _ h => h) (Or.inl ⟨by rfl, ?_⟩) (by assumption) ?_
          rotate_left
          · (intro w' hSw; (try dsimp only at hSw); go_simp; try with_reducible rfl)
          try simp only [Act.put, List.setIfInBounds_toArray, List.set_cons_zero, List.set_cons_succ]
          refine wpAnyH_take (i := 6) (oi := { dst := some 164, op := Op.convert 23 9 (Operand.tmp 163), type := 9, pos := _, after := #[{ on := 5, ground := Ground.data }], guard := none }) (v := ?_) rfl (by kernel_rfl) (by kernel_rfl) (by kernel_rfl) (fun _ _ _ h => h) (Or.inl ⟨by rfl, ?_⟩) (by assumption) ?_
          rotate_left
          · (intro w' hSw; (try dsimp only at hSw); have hq := str_v (HSz.out.p.below hSw); clear hSw; go_simp; try with_reducible rfl)
          try simp only [Act.put, List.setIfInBounds_toArray, List.set_cons_zero, List.set_cons_succ]
          refine wpAnyH_ready (rs := [2]) (by kernel_rfl) (by simp) ?_
          refine AllReadyH.cons (o := { dst := some 160, op := Op.call { callee := Callee.value (Operand.func 11), args := #[Operand.tmp 159], argTypes := #[23] }, type := 3, pos := _, after := #[{ on := 1, ground := Ground.data }], guard := none }) rfl (fun K hK => ?_) AllReadyH.nil
          go_simp
          refine (next_v (HSz.out.p.below hHeld)).mono ?_
          rw [HSz.out.va.pgD, HSz.out.nx]
          rintro e wa ⟨rfl, hba⟩
          refine hK.out _ _ (hHeld.trans (hba.mono hHeld.size)) (fun hHeld1 => ?_)
          clear hK K hba
          try simp only [Act.put, List.setIfInBounds_toArray, List.set_cons_zero, List.set_cons_succ]
          refine wpAnyH_ready (rs := [3]) (by kernel_rfl) (by simp) ?_
          refine AllReadyH.cons (o := { dst := some 161, op := Op.call { callee := Callee.value (Operand.func 10), args := #[Operand.tmp 158, Operand.tmp 160], argTypes := #[23, 3] }, type := 23, pos := _, after := #[{ on := 0, ground := Ground.data }, { on := 2, ground := Ground.data }, { on := 2, ground := Ground.chain }], guard := none }) rfl (fun K hK => ?_) AllReadyH.nil
          go_simp
          refine (setNext_v (HQz.out.below hHeld1) 0 (by omega)).mono ?_
          rw [setNext_valid HVQ.out, if_pos ⟨by omega, by omega⟩, hlq, show MPage.bytes ⟨0, m.l⟩ = m.bytes by rw [← HSz.out.nx]]
          rintro e wb ⟨vb, rfl, hob, hbb⟩
          obtain ⟨Ab, cb, rfl, HOB⟩ := hob.split
          rw [hm504] at HOB
          try rw [hm504]
          have hBW := hHeld1.trans (hbb.mono hHeld1.size)
          refine hK.out _ _ hBW (fun hHeld2 => ?_)
          refine wpAnyH_mono (S' := fun w' => Below wb.heap.size wb w') (fun w' h => hBW.trans (h.mono hBW.size)) _ _ _ _ ?_
          have hHeld3 : Below wb.heap.size wb wb := Below.refl _ _
          clear hK K hob hbb
          try simp only [Act.put, List.setIfInBounds_toArray, List.set_cons_zero, List.set_cons_succ]
          refine wpAnyH_take (i := 4) (oi := { dst := some 162, op := Op.convert 23 9 (Operand.tmp 161), type := 9, pos := _, after := #[{ on := 3, ground := Ground.data }], guard := none }) (v := ?_) rfl (by kernel_rfl) (by kernel_rfl) (by kernel_rfl) (fun _ _ _ h => h) (Or.inl ⟨by rfl, ?_⟩) (by assumption) ?_
          rotate_left
          · (intro w' hSw; (try dsimp only at hSw); have hq := str_v (HOB.out.below hSw); clear hSw; go_simp; try with_reducible rfl)
          try simp only [Act.put, List.setIfInBounds_toArray, List.set_cons_zero, List.set_cons_succ]
          refine wpAnyH_take (i := 7) (oi := { dst := some 165, op := Op.binOp BinOp.eql 9 (Operand.tmp 162) (Operand.tmp 164) 9, type := 4, pos := _, after := #[{ on := 4, ground := Ground.data }, { on := 6, ground := Ground.data }], guard := none }) (v := ?_) rfl (by kernel_rfl) (by kernel_rfl) (by kernel_rfl) (fun _ _ _ h => h) (Or.inl ⟨by rfl, ?_⟩) (by assumption) ?_
          rotate_left
          · (intro w' hSw; (try dsimp only at hSw); go_simp; try with_reducible rfl)
          try simp only [Act.put, List.setIfInBounds_toArray, List.set_cons_zero, List.set_cons_succ]
          refine wpAnyH_take (i := 8) (oi := { dst := some 166, op := Op.move (Operand.tmp 165), type := 4, pos := _, after := #[{ on := 7, ground := Ground.data }, { on := 3, ground := Ground.chain }], guard := none }) (v := ?_) rfl (by kernel_rfl) (by kernel_rfl) (by kernel_rfl) (fun _ _ _ h => h) (Or.inl ⟨by rfl, ?_⟩) (by assumption) ?_
          rotate_left
          · (intro w' hSw; (try dsimp only at hSw); go_simp; try with_reducible rfl)
          try simp only [Act.put, List.setIfInBounds_toArray, List.set_cons_zero, List.set_cons_succ]
          refine wpAnyH_ready (rs := [9]) (by kernel_rfl) (by simp) ?_
          refine AllReadyH.cons (o := { dst := some 167, op := Op.call { callee := Callee.value (Operand.func 17), args := #[], argTypes := #[] }, type := 4, pos := _, after := #[{ on := 8, ground := Ground.chain }, { on := 8, ground := Ground.guard }], guard := some (8, true) }) rfl (fun K hK => ?_) AllReadyH.nil
          go_simp
          refine (awake_any wb).mono ?_
          rintro e wd ⟨rfl, hbd⟩
          refine hK.out _ _ hbd (fun hHeld4 => ?_)
          clear hK K
          try simp only [Act.put, List.setIfInBounds_toArray, List.set_cons_zero, List.set_cons_succ]
          refine wpAnyH_take (i := 10) (oi := { dst := some 168, op := Op.pick (Operand.tmp 166) (Operand.tmp 167) (Operand.const (Value.bool false)), type := 4, pos := _, after := #[{ on := 8, ground := Ground.data }, { on := 9, ground := Ground.data }], guard := none }) (v := ?_) rfl (by kernel_rfl) (by kernel_rfl) (by kernel_rfl) (fun _ _ _ h => h) (Or.inl ⟨by rfl, ?_⟩) (by assumption) ?_
          rotate_left
          · (intro w' hSw; (try dsimp only at hSw); go_simp; try with_reducible rfl)
          try simp only [Act.put, List.setIfInBounds_toArray, List.set_cons_zero, List.set_cons_succ]
          refine wpAnyH_take (i := 11) (oi := { dst := some 6, op := Op.assign (Operand.tmp 168), type := 4, pos := _, after := #[{ on := 10, ground := Ground.data }, { on := 9, ground := Ground.chain }, { on := 0, ground := Ground.phase }, { on := 1, ground := Ground.phase }, { on := 2, ground := Ground.phase }, { on := 3, ground := Ground.phase }, { on := 4, ground := Ground.phase }, { on := 5, ground := Ground.phase }, { on := 6, ground := Ground.phase }, { on := 7, ground := Ground.phase }, { on := 8, ground := Ground.phase }, { on := 9, ground := Ground.phase }, { on := 10, ground := Ground.phase }], guard := none }) (v := ?_) rfl (by kernel_rfl) (by kernel_rfl) (by kernel_rfl) (fun _ _ _ h => h) (Or.inl ⟨by rfl, ?_⟩) (by assumption) ?_
          rotate_left
          · (intro w' hSw; (try dsimp only at hSw); go_simp; try with_reducible rfl)
          try simp only [Act.put, List.setIfInBounds_toArray, List.set_cons_zero, List.set_cons_succ]
          refine wpAnyH_done (by kernel_rfl) ?_ _
          have HBE := hid ((HSz.out.be.trans (hBW.mono HSz.out.be.size)).trans (hHeld4.mono (Nat.le_trans HSz.out.be.size hBW.size)))
          clear hHeld4 hbd
          go_wp2
          go_ret
          exact ⟨by first | rfl | simp, by first | exact HBE.out | exact HBE.out.drew⟩
        · have hx0 : Hid (xs = []) := hid (List.eq_nil_of_length_eq_zero (by omega))
          have hnp : ¬ ((0 : Int) < (xs.length : Int)) := by omega
          have HSz := HS6
          have HQz := HQ6
          clear hN
          go_wp2_with fail
          refine wp_region_held_drew (S := fun w' => Below wc.heap.size wc w') (by kernel_rfl) (by exact (Below.refl _ _).drew) (fun hHeld => ?_)
          refine wpAnyH_take (i := 0) (oi := { dst := some 158, op := Op.move (Operand.tmp 12), type := 23, pos := _, after := #[], guard := none }) (v := ?_) rfl (by kernel_rfl) (by kernel_rfl) (by kernel_rfl) (fun _ _ _ h => h) (Or.inl ⟨by rfl, ?_⟩) (by assumption) ?_
          rotate_left
          · (intro w' hSw; (try dsimp only at hSw); go_simp; try with_reducible rfl)
          try simp only [Act.put, List.setIfInBounds_toArray, List.set_cons_zero, List.set_cons_succ]
          refine wpAnyH_take (i := 1) (oi := { dst := some 159, op := Op.move (Operand.tmp 7), type := 23, pos := _, after := #[], guard := none }) (v := ?_) rfl (by kernel_rfl) (by kernel_rfl) (by kernel_rfl) (fun _ _ _ h => h) (Or.inl ⟨by rfl, ?_⟩) (by assumption) ?_
          rotate_left
          · (intro w' hSw; (try dsimp only at hSw); go_simp; try with_reducible rfl)
          try simp only [Act.put, List.setIfInBounds_toArray, List.set_cons_zero, List.set_cons_succ]
          refine wpAnyH_take (i := 5) (oi := { dst := some 163, op := Op.move (Operand.tmp 7), type := 23, pos := _, after := #[], guard := none }) (v := ?_) rfl (by kernel_rfl) (by kernel_rfl) (by kernel_rfl) (fun _ _ _ h => h) (Or.inl ⟨by rfl, ?_⟩) (by assumption) ?_
          rotate_left
          · (intro w' hSw; (try dsimp only at hSw); go_simp; try with_reducible rfl)
          try simp only [Act.put, List.setIfInBounds_toArray, List.set_cons_zero, List.set_cons_succ]
          refine wpAnyH_take (i := 6) (oi := { dst := some 164, op := Op.convert 23 9 (Operand.tmp 163), type := 9, pos := _, after := #[{ on := 5, ground := Ground.data }], guard := none }) (v := ?_) rfl (by kernel_rfl) (by kernel_rfl) (by kernel_rfl) (fun _ _ _ h => h) (Or.inl ⟨by rfl, ?_⟩) (by assumption) ?_
          rotate_left
          · (intro w' hSw; (try dsimp only at hSw); have hq := str_v (HSz.out.p.below hSw); clear hSw; go_simp; try with_reducible rfl)
          try simp only [Act.put, List.setIfInBounds_toArray, List.set_cons_zero, List.set_cons_succ]
          refine wpAnyH_ready (rs := [2]) (by kernel_rfl) (by simp) ?_
          refine AllReadyH.cons (o := { dst := some 160, op := Op.call { callee := Callee.value (Operand.func 11), args := #[Operand.tmp 159], argTypes := #[23] }, type := 3, pos := _, after := #[{ on := 1, ground := Ground.data }], guard := none }) rfl (fun K hK => ?_) AllReadyH.nil
          go_simp
          refine (next_v (HSz.out.p.below hHeld)).mono ?_
          rw [HSz.out.va.pgD, HSz.out.nx]
          rintro e wa ⟨rfl, hba⟩
          refine hK.out _ _ (hHeld.trans (hba.mono hHeld.size)) (fun hHeld1 => ?_)
          clear hK K hba
          try simp only [Act.put, List.setIfInBounds_toArray, List.set_cons_zero, List.set_cons_succ]
          refine wpAnyH_ready (rs := [3]) (by kernel_rfl) (by simp) ?_
          refine AllReadyH.cons (o := { dst := some 161, op := Op.call { callee := Callee.value (Operand.func 10), args := #[Operand.tmp 158, Operand.tmp 160], argTypes := #[23, 3] }, type := 23, pos := _, after := #[{ on := 0, ground := Ground.data }, { on := 2, ground := Ground.data }, { on := 2, ground := Ground.chain }], guard := none }) rfl (fun K hK => ?_) AllReadyH.nil
          go_simp
          refine (setNext_v (HQz.out.below hHeld1) 0 (by omega)).mono ?_
          rw [setNext_valid HVQ.out, if_pos ⟨by omega, by omega⟩, hlq, show MPage.bytes ⟨0, m.l⟩ = m.bytes by rw [← HSz.out.nx]]
          rintro e wb ⟨vb, rfl, hob, hbb⟩
          obtain ⟨Ab, cb, rfl, HOB⟩ := hob.split
          rw [hm504] at HOB
          try rw [hm504]
          have hBW := hHeld1.trans (hbb.mono hHeld1.size)
          refine hK.out _ _ hBW (fun hHeld2 => ?_)
          refine wpAnyH_mono (S' := fun w' => Below wb.heap.size wb w') (fun w' h => hBW.trans (h.mono hBW.size)) _ _ _ _ ?_
          have hHeld3 : Below wb.heap.size wb wb := Below.refl _ _
          clear hK K hob hbb
          try simp only [Act.put, List.setIfInBounds_toArray, List.set_cons_zero, List.set_cons_succ]
          refine wpAnyH_take (i := 4) (oi := { dst := some 162, op := Op.convert 23 9 (Operand.tmp 161), type := 9, pos := _, after := #[{ on := 3, ground := Ground.data }], guard := none }) (v := ?_) rfl (by kernel_rfl) (by kernel_rfl) (by kernel_rfl) (fun _ _ _ h => h) (Or.inl ⟨by rfl, ?_⟩) (by assumption) ?_
          rotate_left
          · (intro w' hSw; (try dsimp only at hSw); have hq := str_v (HOB.out.below hSw); clear hSw; go_simp; try with_reducible rfl)
          try simp only [Act.put, List.setIfInBounds_toArray, List.set_cons_zero, List.set_cons_succ]
          refine wpAnyH_take (i := 7) (oi := { dst := some 165, op := Op.binOp BinOp.eql 9 (Operand.tmp 162) (Operand.tmp 164) 9, type := 4, pos := _, after := #[{ on := 4, ground := Ground.data }, { on := 6, ground := Ground.data }], guard := none }) (v := ?_) rfl (by kernel_rfl) (by kernel_rfl) (by kernel_rfl) (fun _ _ _ h => h) (Or.inl ⟨by rfl, ?_⟩) (by assumption) ?_
          rotate_left
          · (intro w' hSw; (try dsimp only at hSw); go_simp; try with_reducible rfl)
          try simp only [Act.put, List.setIfInBounds_toArray, List.set_cons_zero, List.set_cons_succ]
          refine wpAnyH_take (i := 8) (oi := { dst := some 166, op := Op.move (Operand.tmp 165), type := 4, pos := _, after := #[{ on := 7, ground := Ground.data }, { on := 3, ground := Ground.chain }], guard := none }) (v := ?_) rfl (by kernel_rfl) (by kernel_rfl) (by kernel_rfl) (fun _ _ _ h => h) (Or.inl ⟨by rfl, ?_⟩) (by assumption) ?_
          rotate_left
          · (intro w' hSw; (try dsimp only at hSw); go_simp; try with_reducible rfl)
          try simp only [Act.put, List.setIfInBounds_toArray, List.set_cons_zero, List.set_cons_succ]
          refine wpAnyH_ready (rs := [9]) (by kernel_rfl) (by simp) ?_
          refine AllReadyH.cons (o := { dst := some 167, op := Op.call { callee := Callee.value (Operand.func 17), args := #[], argTypes := #[] }, type := 4, pos := _, after := #[{ on := 8, ground := Ground.chain }, { on := 8, ground := Ground.guard }], guard := some (8, true) }) rfl (fun K hK => ?_) AllReadyH.nil
          go_simp
          refine (awake_any wb).mono ?_
          rintro e wd ⟨rfl, hbd⟩
          refine hK.out _ _ hbd (fun hHeld4 => ?_)
          clear hK K
          try simp only [Act.put, List.setIfInBounds_toArray, List.set_cons_zero, List.set_cons_succ]
          refine wpAnyH_take (i := 10) (oi := { dst := some 168, op := Op.pick (Operand.tmp 166) (Operand.tmp 167) (Operand.const (Value.bool false)), type := 4, pos := _, after := #[{ on := 8, ground := Ground.data }, { on := 9, ground := Ground.data }], guard := none }) (v := ?_) rfl (by kernel_rfl) (by kernel_rfl) (by kernel_rfl) (fun _ _ _ h => h) (Or.inl ⟨by rfl, ?_⟩) (by assumption) ?_
          rotate_left
          · (intro w' hSw; (try dsimp only at hSw); go_simp; try with_reducible rfl)
          try simp only [Act.put, List.setIfInBounds_toArray, List.set_cons_zero, List.set_cons_succ]
          refine wpAnyH_take (i := 11) (oi := { dst := some 6, op := Op.assign (Operand.tmp 168), type := 4, pos := _, after := #[{ on := 10, ground := Ground.data }, { on := 9, ground := Ground.chain }, { on := 0, ground := Ground.phase }, { on := 1, ground := Ground.phase }, { on := 2, ground := Ground.phase }, { on := 3, ground := Ground.phase }, { on := 4, ground := Ground.phase }, { on := 5, ground := Ground.phase }, { on := 6, ground := Ground.phase }, { on := 7, ground := Ground.phase }, { on := 8, ground := Ground.phase }, { on := 9, ground := Ground.phase }, { on := 10, ground := Ground.phase }], guard := none }) (v := ?_) rfl (by kernel_rfl) (by kernel_rfl) (by kernel_rfl) (fun _ _ _ h => h) (Or.inl ⟨by rfl, ?_⟩) (by assumption) ?_
          rotate_left
          · (intro w' hSw; (try dsimp only at hSw); go_simp; try with_reducible rfl)
          try simp only [Act.put, List.setIfInBounds_toArray, List.set_cons_zero, List.set_cons_succ]
          refine wpAnyH_done (by kernel_rfl) ?_ _
          have HBE := hid ((HSz.out.be.trans (hBW.mono HSz.out.be.size)).trans (hHeld4.mono (Nat.le_trans HSz.out.be.size hBW.size)))
          clear hHeld4 hbd
          go_wp2
          go_ret
          exact ⟨by first | rfl | simp, by first | exact HBE.out | exact HBE.out.drew⟩

end Go.Proofs.Ytpdikmkhkiplbaa
