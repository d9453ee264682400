/- The document's Set and Del answer as package slot does. Conditions: none but what a slice is. -/
import Derived.Test.YtpdikmkhkiplbaaRf6
namespace Go.Proofs.Ytpdikmkhkiplbaa
open Go.RowKit
set_option maxRecDepth 100000
set_option linter.unusedVariables false
set_option linter.unusedSimpArgs false

theorem withL_lt {l : Recs} {k : Nat} (hk : k < l.length) (d : List UInt8) : withL l k d = l.set k (some d) := by
  rw [withL, if_neg (by omega)]

set_option maxHeartbeats 3200000 in
theorem rset_any (A : Option Addr) (n c : Nat) (bs : List UInt8) (i : Int) (A2 : Option Addr) (n2 c2 : Nat) (d : List UInt8) (w : World) (hr : Rd w 1 A n (u8s bs)) (hn : n = bs.length) (hc : n ≤ c) (hr2 : Rd w 1 A2 n2 (u8s d)) (hn2 : n2 = d.length) :
    Calls Try.prog 22 #[.slice A n c, .int .i64 i, .slice A2 n2 c2] w fun e w' => ∃ v, e = .returned (.tuple #[v, .int .i64 (setB bs i d).1]) ∧ OutB w.heap.size w' v (obytes (setB bs i d).2) ∧ Below w.heap.size w w' := by
  have H := hid (rread_any A n c bs w hr hn hc)
  have HR2 := hid hr2
  have HN2 := hid hn2
  clear hr hn hr2 hn2
  go_enter Try.func22, Try.ntmps22
  go_wp2_with fail
  refine H.out.mono ?_
  rintro e w1 ⟨A1, c1, rfl, ho1, hb1⟩
  have HA := hid (afterR ho1 hb1)
  have hv := hid (pgD_valid bs)
  have hlen : (pgD bs).l.length ≤ 124 := hv.out.len
  have HR := hid (HR2.out.below HA.out.be)
  clear ho1 hb1 H
  obtain ⟨pc0, pc1, _⟩ := blk2 HA.out.bx
  have hhas := hid (rhas_any A1 c1 (pgD bs).next (pgD bs).l i _ HA.out.sr)
  cases hp : pg bs with
  | none => as_aux_lemma =>
    have hg : Hid (setB bs i d = (63, none)) := hid (by rw [setB, hp])
    clear hp
    simp only [Option.isSome_none]
    go_wp2
    go_ret2
    rw [hg.out]
    exact ⟨.slice none 0 0, rfl, OutB.nil, HA.out.be⟩
  | some q => as_aux_lemma =>
    have hq : Hid (setB bs i d = setP (pgD bs) i d) := hid (by rw [setB, hp, pgD_some hp])
    clear hp
    simp only [Option.isSome_some]
    by_cases h480 : 480 < n2
    · as_aux_lemma =>
      have hg : Hid (setB bs i d = (1, none)) := hid (by rw [hq.out, setP, if_pos (by have := HN2.out; omega)])
      go_wp2
      go_ret2
      rw [hg.out]
      exact ⟨.slice none 0 0, rfl, OutB.nil, HA.out.be⟩
    · cases hh : (pgD bs).has i with
      | false => as_aux_lemma =>
        have hg : Hid (setB bs i d = (61, none)) := hid (by rw [hq.out, setP, if_neg (by have := HN2.out; omega), hh]; rfl)
        have hhas : Hid (Calls Try.prog 38 #[.agg #[.int .i64 (pgD bs).next, .slice A1 (pgD bs).l.length c1], .int .i64 i] (w1.alloc (.cells #[.int .i64 (pgD bs).next, .slice A1 (pgD bs).l.length c1] 66)) fun e w' => e = .returned (.bool false) ∧ Below (w1.alloc (.cells #[.int .i64 (pgD bs).next, .slice A1 (pgD bs).l.length c1] 66)).heap.size (w1.alloc (.cells #[.int .i64 (pgD bs).next, .slice A1 (pgD bs).l.length c1] 66)) w') := by rw [← hh]; exact hhas
        clear hh
        go_wp2_with fail
        refine hhas.out.mono ?_
        rintro e w3 ⟨rfl, hb3⟩
        have hbe := hid (HA.out.be.trans (hb3.mono HA.out.be.size))
        clear hb3
        go_wp2
        go_ret2
        rw [hg.out]
        exact ⟨.slice none 0 0, rfl, OutB.nil, hbe.out⟩
      | true => as_aux_lemma =>
        obtain ⟨k, r, rfl, hx⟩ := has_rec hh
        have hhas : Hid (Calls Try.prog 38 #[.agg #[.int .i64 (pgD bs).next, .slice A1 (pgD bs).l.length c1], .int .i64 k] (w1.alloc (.cells #[.int .i64 (pgD bs).next, .slice A1 (pgD bs).l.length c1] 66)) fun e w' => e = .returned (.bool true) ∧ Below (w1.alloc (.cells #[.int .i64 (pgD bs).next, .slice A1 (pgD bs).l.length c1] 66)).heap.size (w1.alloc (.cells #[.int .i64 (pgD bs).next, .slice A1 (pgD bs).l.length c1] 66)) w') := by rw [← hh]; exact hhas
        have hkl : k < (pgD bs).l.length := (List.getElem?_eq_some_iff.1 hx).1
        have Hh := hid hh
        clear hx hh
        go_wp2_with fail
        refine hhas.out.mono ?_
        rintro e w3 ⟨rfl, hb3⟩
        have hbe := hid (HA.out.be.trans (hb3.mono HA.out.be.size))
        obtain ⟨pd0, pd1, _⟩ := blk2 (HA.out.bx.below hb3 HA.out.bx.lt)
        have hwith := hid (rwith_any A1 c1 (pgD bs).next (pgD bs).l k A2 n2 c2 d w3 (HA.out.sr.below hb3) (by omega) hv.out.fits.1 (HR.out.below hb3) HN2.out (by have := HN2.out; omega))
        clear hb3 pc0 pc1
        go_wp2_with fail
        refine hwith.out.mono ?_
        rintro e w4 hpost
        unfold WithPost at hpost
        obtain ⟨hb4, hpost⟩ := hpost
        have HB4 := hid (hbe.out.trans (hb4.mono hbe.out.size))
        have hwl := hid (withL_lt hkl d)
        clear hb4 hwith pd0 pd1
        by_cases hfit : 498 < 4 * (withL (pgD bs).l k d).length + sum (withL (pgD bs).l k d)
        · as_aux_lemma =>
          rw [if_pos hfit] at hpost
          subst hpost
          have hg : Hid (setB bs k d = (60, none)) := hid (by
            rw [hwl.out, List.length_set] at hfit
            rw [hq.out, setP, if_neg (by have := HN2.out; omega), if_pos Hh.out, Int.toNat_natCast, if_pos (by omega)])
          have hbx := (box66 w4 (pgD bs).next (.slice A1 (pgD bs).l.length c1)).1
          have HB5 := hid (HB4.out.trans (hbx.mono HB4.out.size))
          clear hbx
          go_wp2
          go_ret2
          rw [hg.out]
          exact ⟨.slice none 0 0, rfl, OutB.nil, HB5.out⟩
        · as_aux_lemma =>
          rw [if_neg hfit] at hpost
          obtain ⟨A4, c4, rfl, hs4⟩ := hpost
          have hg : Hid (setB bs k d = (0, some ⟨(pgD bs).next, withL (pgD bs).l k d⟩)) := hid (by
            rw [hwl.out, List.length_set] at hfit
            rw [hq.out, setP, if_neg (by have := HN2.out; omega), if_pos Hh.out, Int.toNat_natCast, if_neg (by omega), hwl.out])
          have hbx := (box66 w4 (pgD bs).next (.slice A4 (withL (pgD bs).l k d).length c4)).1
          have htr : trim (withL (pgD bs).l k d) = withL (pgD bs).l k d := by rw [hwl.out]; exact trim_set hv.out.tr k d
          have hcall := hid (rbytes_any A4 c4 (pgD bs).next.toNat (withL (pgD bs).l k d) _ (hs4.below hbx) (by have := hv.out.n1; have := hv.out.n2; omega) (by omega))
          rw [← raw_bytes _ _ htr, Int.toNat_of_nonneg hv.out.n1] at hcall
          have HB5 := hid (HB4.out.trans (hbx.mono HB4.out.size))
          clear hs4 hbx htr
          go_wp2_with fail
          refine hcall.out.mono ?_
          rintro e w5 ⟨v5, rfl, ho5, hb5⟩
          obtain ⟨A5, c5, rfl, HO5⟩ := ho5.split
          have HB6 := hid (HB5.out.trans (hb5.mono HB5.out.size))
          clear ho5 hb5 hcall
          go_wp2
          go_ret2
          rw [hg.out]
          exact ⟨_, rfl, HO5.out.mono HB5.out.size, HB6.out⟩

/-- Del's new page: its box at Q, its row behind -/
structure DlS (w wr : World) (Q : Nat) (m : Int) (v : Value) (l : Recs) : Prop where
  q : Blk wr Q 66 #[.int .i64 m, v]
  row : wr.ownsRow (Q + 1) 70 2 v l.length (scs l)
  be : Below w.heap.size w wr
  nw : w.heap.size ≤ Q
section
variable {w wr wx w5 : World} {Q : Nat} {m : Int} {v v' : Value} {l : Recs}
theorem DlS.push (h : DlS w wr Q m v l) (a : Recs) (hg : wr.grownBy w5 v.ownBlock) (ho : w5.ownsRow (Q + 1) 70 2 v' (l.length + a.length) (scs l ++ scs a)) :
    w5.cell? ⟨Q, 1, none⟩ = some v ∧ w5.frozen? ⟨Q, 1, none⟩ = false ∧ DlS w (w5.setCell ⟨Q, 1, none⟩ v') Q m v' (l ++ a) := by
  have hB : ∀ g, v.ownBlock = some g → Q + 1 ≤ g := fun g hg => (own_block h.row hg).1
  have hq := h.q.grown hg (fun e => by have := hB _ e.symm; omega)
  have hnw := h.nw
  have hbe : Below w.heap.size w (w5.setCell ⟨Q, 1, none⟩ v') := (h.be.trans ⟨hg.os, hg.tape, hg.output, hg.size, fun i hi => hg.block i (by have := h.be.size; omega) (fun e => by have := hB _ e.symm; omega)⟩ : Below w.heap.size w w5).trans ((chg_set Q 1 v').below (by have := h.be.size; have := hg.size; omega) (fun i hi => by omega))
  refine ⟨blk2b hq, hq.frozen 1, ?_, ?_, hbe, hnw⟩
  · have := hq.set_ 1 v'
    simpa using this
  · rw [List.length_append, scs_append]
    exact own_chg ho (chg_set Q 1 v') (fun g hg e => by have := (own_block ho hg).1; omega)
theorem DlS.setAt {g c : Nat} (h : DlS w wr Q m (.slice (some ⟨g, 0, none⟩) l.length c) l) (k : Nat) (hk : k < l.length) (x : Option (List UInt8)) :
    (∃ u, wr.cell? ⟨g, k * 2, none⟩ = some u) ∧ (∃ u, wr.cell? ⟨g, k * 2 + 1, none⟩ = some u) ∧ (∀ j, wr.frozen? ⟨g, j, none⟩ = false) ∧
      DlS w ((wr.setCell ⟨g, k * 2, none⟩ (.bool x.isSome)).setCell ⟨g, k * 2 + 1, none⟩ (.string ⟨(x.getD []).toArray⟩)) Q m (.slice (some ⟨g, 0, none⟩) l.length c) (l.set k x) := by
  have hg := (own_block h.row (g := g) rfl).1
  have hnw := h.nw
  have hc := chg_set2 (w := wr) g (k * 2) (k * 2 + 1) (.bool x.isSome) (.string ⟨(x.getD []).toArray⟩)
  obtain ⟨y, hy⟩ : ∃ y, l[k]? = some y := ⟨_, List.getElem?_eq_getElem hk⟩
  obtain ⟨e1, e2⟩ := scs_at l k y hy
  refine ⟨⟨_, (h.row.cellAt (k * 2) (by omega)).trans e1⟩, ⟨_, (h.row.cellAt (k * 2 + 1) (by omega)).trans e2⟩, fun j => h.row.frozenAt j, h.q.chg hc (by omega), ?_, h.be.trans (hc.below h.be.size (fun i hi => by omega)), hnw⟩
  rw [List.length_set]
  exact own_setrec h.row k hk x
/-- the last slot goes -/
theorem DlS.pop {A : Option Addr} {c : Nat} {x : Option (List UInt8)} (h : DlS w wr Q m (.slice A (l ++ [x]).length c) (l ++ [x])) :
    wr.cell? ⟨Q, 1, none⟩ = some (.slice A (l.length + 1) c) ∧ wr.frozen? ⟨Q, 1, none⟩ = false ∧ DlS w (wr.setCell ⟨Q, 1, none⟩ (.slice A l.length c)) Q m (.slice A l.length c) l := by
  have e : (l ++ [x]).length = l.length + 1 := by simp
  have hrow := h.row
  rw [e, scs_append] at hrow
  have hq := h.q
  rw [e] at hq
  obtain ⟨g, cap, hv, _, _⟩ := hrow.form (by omega)
  injection hv with hA _ hcap
  subst hA hcap
  have hr2 := ownsRow_pop (length_scs l) hrow
  have hgg := (own_block hrow (g := g) rfl).1
  refine ⟨blk2b hq, hq.frozen 1, ?_, own_chg hr2 (chg_set Q 1 _) (fun g' hg' e => by have := (own_block hr2 hg').1; omega), h.be.trans ((chg_set Q 1 _).below h.be.size (fun i hi => by have := h.nw; omega)), h.nw⟩
  have := hq.set_ 1 (.slice (some ⟨g, 0, none⟩) l.length c)
  simpa using this
end
/-- how many slots a page's box tells of -/
def lenAt (w : World) (Q : Nat) : Nat := match w.cell? ⟨Q, 1, none⟩ with | some (.slice _ n _) => n | _ => 0
theorem lenAt_is {w : World} {Q n c : Nat} {A : Option Addr} (h : w.cell? ⟨Q, 1, none⟩ = some (.slice A n c)) : lenAt w Q = n := by rw [lenAt, h]
theorem sl_recs {A : Option Addr} (k : Nat) (i : Int) (hi : i = (k : Int)) (n c : Nat) (hk : k ≤ c) (W : World) : (Instr.slice 64 (.slice A n c) none (some (.int .i64 i)) none).run Try.prog W = .ok (.slice A k c) W := by
  subst hi
  obtain ⟨i0, hi, hz0, hz1, hz2⟩ := info_parts info70
  have hk' : (k : Int) ≤ (c : Int) := by omega
  have e : (A.map fun x => x.add 0) = A := by cases A with
    | none => rfl
    | some a => simp [Addr.add]
  simp [Instr.slice, Instr.sliceBounds, Instr.sliceBound, asIntOf, run_underlying Try.underlying64, sizeOf, typeInfo, hi, hz1, hk', e]
  intro hc'; omega
set_option maxHeartbeats 3200000 in
theorem rdel_any (A : Option Addr) (n c : Nat) (bs : List UInt8) (i : Int) (w : World) (hr : Rd w 1 A n (u8s bs)) (hn : n = bs.length) (hc : n ≤ c) :
    Calls Try.prog 23 #[.slice A n c, .int .i64 i] w fun e w' => ∃ v, e = .returned (.tuple #[v, .int .i64 (delE bs i)]) ∧ OutB w.heap.size w' v (delO bs i) ∧ Below w.heap.size w w' := by
  have H := hid (rread_any A n c bs w hr hn hc)
  obtain ⟨i70, hi70, hz0, hz1, hz2⟩ := info_parts info70
  clear hr hn
  go_enter Try.func23, Try.ntmps23
  go_wp2_with fail
  refine H.out.mono ?_
  rintro e w1 ⟨A1, c1, rfl, ho1, hb1⟩
  have HA := hid (afterR ho1 hb1)
  have hv := hid (pgD_valid bs)
  have hlen : (pgD bs).l.length ≤ 124 := hv.out.len
  clear ho1 hb1 H
  obtain ⟨pc0, pc1, _⟩ := blk2 HA.out.bx
  have hhas := hid (rhas_any A1 c1 (pgD bs).next (pgD bs).l i _ HA.out.sr)
  cases hp : (pg bs).isSome with
  | false => as_aux_lemma =>
    have hg1 : Hid (delE bs i = 63) := hid (by rw [delE, hp]; rfl)
    have hg2 : Hid (delO bs i = []) := hid (by rw [delO, hp]; rfl)
    clear hp
    go_wp2
    go_ret2
    rw [hg1.out, hg2.out]
    exact ⟨.slice none 0 0, rfl, OutB.nil, HA.out.be⟩
  | true =>
    cases hh : (pgD bs).has i with
    | false => as_aux_lemma =>
      have hg1 : Hid (delE bs i = 61) := hid (by rw [delE, hp, hh]; rfl)
      have hg2 : Hid (delO bs i = []) := hid (by rw [delO, hp, hh]; rfl)
      have hhas : Hid (Calls Try.prog 38 #[.agg #[.int .i64 (pgD bs).next, .slice A1 (pgD bs).l.length c1], .int .i64 i] (w1.alloc (.cells #[.int .i64 (pgD bs).next, .slice A1 (pgD bs).l.length c1] 66)) fun e w' => e = .returned (.bool false) ∧ Below (w1.alloc (.cells #[.int .i64 (pgD bs).next, .slice A1 (pgD bs).l.length c1] 66)).heap.size (w1.alloc (.cells #[.int .i64 (pgD bs).next, .slice A1 (pgD bs).l.length c1] 66)) w') := by rw [← hh]; exact hhas
      clear hp hh
      go_wp2_with fail
      refine hhas.out.mono ?_
      rintro e w3 ⟨rfl, hb3⟩
      have hbe := hid (HA.out.be.trans (hb3.mono HA.out.be.size))
      clear hb3
      go_wp2
      go_ret2
      rw [hg1.out, hg2.out]
      exact ⟨.slice none 0 0, rfl, OutB.nil, hbe.out⟩
    | true => as_aux_lemma =>
      obtain ⟨k, r, rfl, hx⟩ := has_rec hh
      have hg1 : Hid (delE bs (k : Int) = 0) := hid (by rw [delE, hp, hh]; rfl)
      have hg2 : Hid (delO bs (k : Int) = MPage.bytes ⟨(pgD bs).next, (pgD bs).l.set k none⟩) := hid (by rw [delO, hp, hh]; rfl)
      have hhas : Hid (Calls Try.prog 38 #[.agg #[.int .i64 (pgD bs).next, .slice A1 (pgD bs).l.length c1], .int .i64 k] (w1.alloc (.cells #[.int .i64 (pgD bs).next, .slice A1 (pgD bs).l.length c1] 66)) fun e w' => e = .returned (.bool true) ∧ Below (w1.alloc (.cells #[.int .i64 (pgD bs).next, .slice A1 (pgD bs).l.length c1] 66)).heap.size (w1.alloc (.cells #[.int .i64 (pgD bs).next, .slice A1 (pgD bs).l.length c1] 66)) w') := by rw [← hh]; exact hhas
      have hkl : k < (pgD bs).l.length := (List.getElem?_eq_some_iff.1 hx).1
      have hgd := hid (good_set_none hv.out k)
      clear hx hh hp
      go_wp2_with fail
      refine hhas.out.mono ?_
      rintro e w3 ⟨rfl, hb3⟩
      have hbe := hid (HA.out.be.trans (hb3.mono HA.out.be.size))
      obtain ⟨pd0, pd1, _⟩ := blk2 ((HA.out.bx.below hb3 HA.out.bx.lt).alloc (.cells #[.int .i64 (pgD bs).next, .slice none 0 0] 66))
      obtain ⟨pe0, pe1, _⟩ := blk2 (HA.out.bx.below hb3 HA.out.bx.lt)
      have hbx := box66 w3 (pgD bs).next (.slice none 0 0)
      have hD0 : DlS w (w3.alloc (.cells #[.int .i64 (pgD bs).next, .slice none 0 0] 66)) w3.heap.size (pgD bs).next (.slice none 0 0) [] := ⟨hbx.2, World.ownsRow_nil _ _ _ _, hbe.out.trans (hbx.1.mono hbe.out.size), hbe.out.size⟩
      have HD0 := hid hD0
      have HSR := hid ((HA.out.sr.below hb3).below hbx.1)
      have hN : w3.heap.size + 1 ≤ (w3.alloc (.cells #[.int .i64 (pgD bs).next, .slice none 0 0] 66)).heap.size := by simp
      clear hb3 pc0 pc1 hbx hD0 hhas
      go_wp2_with (at_builtin; refine wpList_append_any _ rfl (.tmp 24) (.tmp 26) 64 rfl (w3.heap.size + 1) 70 i70 _ 2 24 Try.underlying64 hi70 hz0 hz1 hz2 rfl (by omega) _ 0 [] rfl (World.ownsRow_nil _ _ _ _) A1 (pgD bs).l.length c1 _ rfl HSR.out.rd (scs_one _) (by unfold maxLen; omega) (by omega) hN ?_)
      intro v5 w5 hown5 hg5 hat5
      obtain ⟨hc5, hf5, hp5⟩ := HD0.out.push (pgD bs).l hg5 (by simpa [scs] using hown5)
      rw [List.nil_append] at hp5
      obtain ⟨A5, c5, rfl, _⟩ := own_form hown5
      have HP := hid hp5
      clear hown5 hg5 hat5 hp5 HD0 HSR pd0 pd1 pe0 pe1
      go_upto_region 8 with fail
      generalize hw6 : w5.setCell ⟨w3.heap.size, 1, none⟩ (.slice A5 (pgD bs).l.length c5) = w6
      rw [hw6] at HP
      clear hw6 hc5 hf5
      obtain ⟨g, cap, hvv, _, _⟩ := HP.out.row.form (by omega)
      injection hvv with hA _ hcap
      subst hA hcap
      obtain ⟨⟨u1, hu1⟩, ⟨u2, hu2⟩, hfz, hP7⟩ := HP.out.setAt k hkl none
      simp only [Option.isSome_none, Option.getD_none] at hP7
      obtain ⟨_, qe1, _⟩ := blk2 HP.out.q
      have hkL : (k : Int) < ((pgD bs).l.length : Int) := by omega
      have hf0 := hfz (k * 2)
      have hf1 := hfz (k * 2 + 1)
      obtain ⟨l2, hl2⟩ : ∃ l2, l2 = (pgD bs).l.set k none := ⟨_, rfl⟩
      have hlen2 : l2.length = (pgD bs).l.length := by rw [hl2, List.length_set]
      have hle2 : l2.length ≤ 124 := by omega
      rw [← hl2, ← hlen2] at hP7
      rw [← hl2] at hg2 hgd
      have HP7 := hid hP7
      clear hfz hP7 HP hlen2 hl2
      go_upto_block 0 with fail
      go_cut [] (fun wx => ∃ A c, DlS w wx w3.heap.size (pgD bs).next (.slice A (trim l2).length c) (trim l2))
      case first => as_aux_lemma =>
        go_wp2_with fail
        go_loopw [] (fun wr => ∃ (a : Recs) (A6 : Option Addr) (c6 : Nat), a.length ≤ 124 ∧ trim a = trim l2 ∧ DlS w wr w3.heap.size (pgD bs).next (.slice A6 a.length c6) a) (fun wr => lenAt wr w3.heap.size)
        case atStart => exact ⟨l2, _, _, hle2, rfl, HP7.out⟩
        case round => as_aux_lemma =>
          obtain ⟨a, A6, c6, ha, ht, hd⟩ := hrel
          have HD := hid hd
          have HT := hid ht
          obtain ⟨_, e1, e2⟩ := blk2 hd.q
          clear hd ht HP7
          rcases snoc_cases a with rfl | ⟨b, rfl⟩ | ⟨b, r', rfl⟩
          · go_wp2
            go_meet
            exact ⟨A6, c6, by rw [← HT.out]; exact HD.out⟩
          · have hln : (b ++ [none] : Recs).length = b.length + 1 := by simp
            have hcap := own_cap HD.out.row
            have hsl := sl_recs (A := A6) b.length (b.length : Int) rfl (b.length + 1) c6 (by omega)
            obtain ⟨g6, o6, rfl, hlt6, h61, _⟩ := SRd.of_own HD.out.row b.length none (by simp)
            simp only [Option.isSome_none] at h61
            obtain ⟨hp1, hp2, hp3⟩ := HD.out.pop
            have HP3 := hid hp3
            have m1 := hid (lenAt_is (blk2b hp3.q))
            have m0 := hid (lenAt_is hp1)
            have hbl : b.length ≤ 124 := by omega
            clear e1 hln hcap hp3 ha
            go_wp2
            go_roundw
            case rel => exact ⟨b, _, c6, hbl, by rw [← HT.out, trim_none], HP3.out⟩
            case measure => rw [m1.out, m0.out]; omega
          · have hln : (b ++ [some r'] : Recs).length = b.length + 1 := by simp
            obtain ⟨g6, o6, rfl, hlt6, h61, _⟩ := SRd.of_own HD.out.row b.length (some r') (by simp)
            simp only [Option.isSome_some] at h61
            rw [hln] at e1
            have hbl : b.length ≤ 124 := by omega
            clear hln ha
            go_wp2
            go_meet
            exact ⟨_, c6, by rw [← HT.out, trim_some]; exact HD.out⟩
      case rest => as_aux_lemma =>
        obtain ⟨A8, c8, hd⟩ := hcut
        have HD := hid hd
        obtain ⟨_, e1, e2⟩ := blk2 hd.q
        obtain ⟨e0, _, _⟩ := blk2 hd.q
        have hf := hgd.out.fits
        have hcall := hid (rbytes_any A8 c8 (pgD bs).next.toNat (trim l2) wc (SRd.of_own hd.row) (by have := hv.out.n1; have := hv.out.n2; omega) hf.1)
        rw [← raw_bytes _ _ (trim_trim l2), Int.toNat_of_nonneg hv.out.n1] at hcall
        rw [trim_bytes ⟨(pgD bs).next, l2⟩] at hcall
        clear hd hf HP7
        go_wp2_with fail
        refine hcall.out.mono ?_
        rintro e w9 ⟨v9, rfl, ho9, hb9⟩
        obtain ⟨A9, c9, rfl, HO9⟩ := ho9.split
        have HB9 := hid (HD.out.be.trans (hb9.mono HD.out.be.size))
        clear ho9 hb9 hcall
        go_wp2
        go_ret2
        rw [hg1.out, hg2.out]
        exact ⟨_, rfl, HO9.out.mono HD.out.be.size, HB9.out⟩
end Go.Proofs.Ytpdikmkhkiplbaa
