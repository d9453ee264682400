/- What package slot's Get, Slots, SetNext, Del answer. Conditions: none but what a slice is. -/
import Derived.Test.YtpdikmkhkiplbaaFn2
namespace Go.Proofs.Ytpdikmkhkiplbaa
open Go.RowKit
set_option maxRecDepth 100000
set_option linter.unusedVariables false
set_option linter.unusedSimpArgs false

/-- what a slot's record is -/
noncomputable def getB (bs : List UInt8) (i : Int) : Option (List UInt8) := if (pg bs).isSome && (pgD bs).has i then (pgD bs).l.getD i.toNat none else none
theorem has_rec {q : MPage} {i : Int} (h : q.has i = true) : ∃ k r, i = ((k : Nat) : Int) ∧ q.l[k]? = some (some r) := by
  simp only [MPage.has, Bool.and_eq_true, decide_eq_true_eq] at h
  obtain ⟨⟨h0, h1⟩, h2⟩ := h
  have hk : i.toNat < q.l.length := by omega
  rw [List.getD_eq_getElem?_getD, List.getElem?_eq_getElem hk] at h2
  simp only [Option.getD_some] at h2
  obtain ⟨r, hr⟩ := Option.isSome_iff_exists.1 h2
  exact ⟨i.toNat, r, by omega, by rw [List.getElem?_eq_getElem hk, hr]⟩
theorem has_of {q : MPage} {k : Nat} {r : List UInt8} (h : q.l[k]? = some (some r)) : q.has (k : Int) = true := by
  have hk := (List.getElem?_eq_some_iff.1 h).1
  simp only [MPage.has, Bool.and_eq_true, decide_eq_true_eq, Int.toNat_natCast, List.getD_eq_getElem?_getD, h]
  exact ⟨⟨by omega, by omega⟩, rfl⟩

set_option maxHeartbeats 1600000 in
theorem get_any (A : Option Addr) (n c : Nat) (bs : List UInt8) (i : Int) (w : World) (hr : Rd w 1 A n (u8s bs)) (hn : n = bs.length) (hc : n ≤ c) :
    Calls Try.prog 15 #[.slice A n c, .int .i64 i] w fun e w' => ∃ v, e = .returned (.tuple #[v, .bool (getB bs i).isSome]) ∧ OutB w.heap.size w' v ((getB bs i).getD []) ∧ Below w.heap.size w w' := by
  have H := hid (read_pg A n c bs w hr hn hc)
  clear hr hn
  go_enter Try.func15, Try.ntmps15
  go_wp2_with fail
  refine H.out.mono ?_
  rintro e w1 ⟨A1, c1, rfl, hr1, hb1⟩
  have hpi := hid (page_in hr1 hb1.size)
  have HB1 := hid hb1
  have hhas := hid (has_any w.heap.size w1.heap.size (pgD bs) i _ hpi.out.1)
  have hbe := hid (HB1.out.trans (hpi.out.2.mono HB1.out.size))
  clear hr1 hb1 H
  cases hp : (pg bs).isSome with
  | false =>
    have hg : Hid (getB bs i = none) := hid (by rw [getB, hp]; rfl)
    clear hp
    go_wp2
    go_ret2
    rw [hg.out]
    exact ⟨.slice none 0 0, rfl, OutB.nil, hbe.out⟩
  | true =>
    cases hh : (pgD bs).has i with
    | false =>
      have hg : Hid (getB bs i = none) := hid (by rw [getB, hp, hh]; rfl)
      rw [hh] at hhas
      clear hp hh
      go_wp2_with fail
      refine hhas.out.mono ?_
      rintro e w2 ⟨rfl, rfl⟩
      go_wp2
      go_ret2
      rw [hg.out]
      exact ⟨.slice none 0 0, rfl, OutB.nil, hbe.out⟩
    | true =>
      obtain ⟨k, r, rfl, hx⟩ := has_rec hh
      have hg : Hid (getB bs (k : Int) = some r) := hid (by rw [getB, hp, hh]; simp [List.getD_eq_getElem?_getD, hx])
      rw [hh] at hhas
      obtain ⟨_, lv, hb, hr⟩ := hpi.out.1
      obtain ⟨A3, c3, rfl, _⟩ := hr.form
      have pc1 := blk2b hb
      obtain ⟨g, A2, c2, rfl, hg2, hcell, hfz, hAN, hel⟩ := hr.cell_ hx
      have hkl := (List.getElem?_eq_some_iff.1 hx).1
      have hkl' : (k : Int) < ((pgD bs).l.length : Int) := by omega
      simp only [Option.getD_some] at hcell
      have HE := hid hel.out
      have hcap : r.length ≤ c2 := by
        obtain ⟨g3, c3, e, hl, _⟩ := hel.out
        injection e with _ _ e
        omega
      have hclip := hid (clip_any A2 r.length c2 (w1.alloc (.cells #[.int .i64 (pgD bs).next, .slice A1 (pgD bs).l.length c1] 55)) hcap)
      have hp' := hid hp
      have hx' := hid hx
      clear hp hh hb hr hel hx
      go_wp2_with fail
      refine hhas.out.mono ?_
      rintro e w2 ⟨rfl, rfl⟩
      go_wp2_with fail
      refine hclip.out.mono ?_
      rintro e w2 ⟨rfl, rfl⟩
      go_wp2
      go_ret2
      rw [hg.out]
      refine ⟨.slice A2 r.length r.length, rfl, ?_, hbe.out⟩
      obtain ⟨g3, c3, e, hl, hn⟩ := HE.out
      injection e with e _ _
      subst e
      exact ⟨_, _, rfl, Nat.le_refl _, hn⟩

/-- a slot is laid anew -/
theorem RowAt.setAt {B : Nat} {w : World} {g n c k : Nat} {l : Recs} {v : Value} {x : Option (List UInt8)} (h : RowAt B w (.slice (some ⟨g, 0, none⟩) n c) l) (hk : k < l.length) (he : ElemAt B w v x) :
    RowAt B (w.setCell ⟨g, k, none⟩ v) (.slice (some ⟨g, 0, none⟩) n c) (l.set k x) := by
  obtain ⟨ls, ho, hv⟩ := h
  have hS : ∀ g', g' = g → ∀ cs, ¬ Blk w g' 5 cs := by
    rintro _ rfl cs hk
    obtain ⟨cs', hk'⟩ := own_ty ho rfl
    exact hk.ne_ hk' (by decide) rfl
  have hl := ho.1
  refine ⟨ls.set k v, ⟨by simp at hl ⊢; exact hl, ?_⟩, fun i y hy => ?_⟩
  · rcases ho.2 with ⟨h', _⟩ | ⟨g', cap, cur, h', hb, hh, h1, h2, h3, h4⟩
    · cases h'
    · injection h' with ha hn hc
      injection ha with ha
      injection ha with ha _ _
      subst ha
      refine .inr ⟨g, cap, cur.setIfInBounds k v, by rw [hn, hc, List.length_set], hb, heap_setCell_same w g k cur 23 v hh, by rw [List.length_set]; exact h1, h2, by simpa using h3, ?_⟩
      rw [List.length_set, Array.toList_setIfInBounds, ← h4, List.take_set]
  · by_cases hik : i = k
    · subst hik
      rw [List.getElem?_set_self hk] at hy
      injection hy with hy
      subst hy
      exact ⟨v, by rw [List.getElem?_set_self (by omega)], he.chg (chg_set g i v) hS⟩
    · rw [List.getElem?_set_ne (fun e => hik e.symm)] at hy
      obtain ⟨u, hu, hE⟩ := hv i y hy
      exact ⟨u, by rw [List.getElem?_set_ne (fun e => hik e.symm)]; exact hu, hE.chg (chg_set g k v) hS⟩
theorem PgAt.setAt {B P : Nat} {w : World} {q : MPage} {g c k : Nat} {v : Value} {x : Option (List UInt8)} (h : PgAt B w P q) (hb : Blk w P 55 #[.int .i64 q.next, .slice (some ⟨g, 0, none⟩) q.l.length c]) (hr : RowAt B w (.slice (some ⟨g, 0, none⟩) q.l.length c) q.l) (hk : k < q.l.length) (he : ElemAt B w v x) :
    PgAt B (w.setCell ⟨g, k, none⟩ v) P ⟨q.next, q.l.set k x⟩ := by
  have hne := hr.ne hb g rfl
  refine ⟨h.lp, _, hb.far (fun e => hne e.symm) v, ?_⟩
  exact hr.setAt hk he

theorem bytesOut {base g : Nat} {w : World} {q : MPage} (hl : q.bytes.length = 504) (hg : base ≤ g) (hb : Blk w g 5 (u8s q.bytes).toArray) : OutB base w (.slice (some ⟨g, 0, none⟩) 504 504) q.bytes :=
  ⟨some ⟨g, 0, none⟩, 504, by rw [hl], by omega, by rw [hl]; exact ⟨Rd.of_blk hb (by rw [length_u8s, hl]), fun ad e => by injection e with e; exact ⟨_, _, e.symm, hg, hb⟩⟩⟩

/-- the next page is named -/
noncomputable def setNextB (bs : List UInt8) (n : Int) : List UInt8 := if (pg bs).isSome && decide (0 ≤ n) && decide (n ≤ 4294967295) then MPage.bytes ⟨n, (pgD bs).l⟩ else bs
theorem Valid.good {q : MPage} (h : Valid q) : Good q := ⟨by rw [h.tr]; exact h.fits, h.n1, h.n2, by have := h.len; omega⟩
/-- bytes are copied behind a nil slice -/
theorem copy_out {w w3 : World} {o : Obj} {n : Nat} {v : Value} {bs : List UInt8} (hown : w3.ownsRow w.heap.size 5 1 v n (u8s bs)) (hg : (w.alloc o).grownBy w3 (Value.ownBlock (.slice none 0 0))) (hn : n = bs.length) : OutB w.heap.size w3 v bs ∧ Below w.heap.size w w3 := by
  have h1 : w3.ownsRow w.heap.size 5 1 v bs.length (u8s bs) := by rw [← hn]; exact hown
  refine ⟨?_, ((Below.refl _ _).alloc (Nat.le_refl _) o).grown hg (by simp) (fun k hk => by simp [Value.ownBlock] at hk)⟩
  obtain ⟨A, c, rfl, _⟩ := own_form h1
  refine ⟨A, c, rfl, ?_, NewRow.of_own h1⟩
  rcases h1.2 with ⟨h', h0⟩ | ⟨g, cap, cur, h', _, _, hle, _⟩
  · omega
  · injection h' with _ _ h'; omega
set_option maxHeartbeats 1600000 in
theorem setNext_any (A : Option Addr) (n c : Nat) (bs : List UInt8) (m : Int) (w : World) (hr : Rd w 1 A n (u8s bs)) (hn : n = bs.length) (hc : n ≤ c) (hs : n ≤ 140737488351232) :
    Calls Try.prog 10 #[.slice A n c, .int .i64 m] w fun e w' => ∃ v, e = .returned v ∧ OutB w.heap.size w' v (setNextB bs m) ∧ Below w.heap.size w w' := by
  have H := hid (read_pg A n c bs w hr hn hc)
  obtain ⟨i5, hi5, hy0, hy1, hy2⟩ := info_parts info5
  have HR := hid hr
  have Hn := hid hn
  clear hr hn
  go_enter Try.func10, Try.ntmps10
  go_wp2_with fail
  refine H.out.mono ?_
  rintro e w1 ⟨A1, c1, rfl, hr1, hb1⟩
  have hpi := hid (page_in hr1 hb1.size)
  have HB1 := hid hb1
  have hbe := hid (HB1.out.trans (hpi.out.2.mono HB1.out.size))
  have hv := hid (pgD_valid bs)
  clear hr1 hb1 H
  by_cases hgood : (pg bs).isSome = true ∧ 0 ≤ m ∧ m ≤ 4294967295
  · obtain ⟨hp, h0, h1⟩ := hgood
    have hg : Hid (setNextB bs m = MPage.bytes ⟨m, (pgD bs).l⟩) := hid (by rw [setNextB, hp]; simp [h0, h1])
    rw [hp]
    obtain ⟨_, lv, hb, hr⟩ := hpi.out.1
    obtain ⟨A3, c3, rfl, _⟩ := hr.form
    have hbf : Below w1.heap.size w1 (w1.alloc (.cells #[.int .i64 m, .slice A1 (pgD bs).l.length c1] 55)) := (Below.refl _ _).alloc (Nat.le_refl _) _
    have HE := hid (HB1.out.trans (hbf.mono HB1.out.size))
    have HP2 : Hid (PgAt w.heap.size (w1.alloc (.cells #[.int .i64 m, .slice A1 (pgD bs).l.length c1] 55)) w1.heap.size ⟨m, (pgD bs).l⟩) := hid (by
      refine ⟨hpi.out.1.lp, _, Blk.new w1 55 _, ?_⟩
      have e : Value.slice A3 (pgD bs).l.length c3 = .slice A1 (pgD bs).l.length c1 := by
        have := hb.eq (Blk.new w1 55 _)
        simpa using this
      rw [← e]
      exact hr.chg (S := (· = w1.heap.size)) ⟨rfl, rfl, rfl, by simp, fun k hk hne => by
        have hk' : k < w1.heap.size := by simp at hk; omega
        rw [Below.heap_alloc _ _ _ hk', Below.heap_alloc _ _ _ hk']⟩ (fun g e cs hk => by subst e; exact hk.ne_ hb (by decide) rfl) (hr.ne hb))
    have hgd : Hid (Good ⟨m, (pgD bs).l⟩) := hid ⟨hv.out.good.fits, h0, by show m < 4294967296; omega, hv.out.good.len⟩
    clear hp hb hr hbf
    have hcall := hid (bytes_any w.heap.size w1.heap.size _ _ HP2.out hgd.out)
    clear hpi HP2
    go_wp2_with fail
    refine hcall.out.mono ?_
    rintro e w3 ⟨g, rfl, hg3, hblk, hp1, hc1⟩
    have HO := hid (bytesOut (base := w.heap.size) hgd.out.length (by have := HE.out.size; omega) hblk)
    have HB3 := hid (HE.out.trans (hc1.below HE.out.size (fun i hi => by have := HB1.out.size; omega)))
    clear hblk hp1 hc1 hcall
    go_wp2
    go_ret
    rw [hg.out]
    exact ⟨_, rfl, HO.out, HB3.out⟩
  · have hg : Hid (setNextB bs m = bs) := hid (by
      rw [setNextB, if_neg]
      intro h
      simp only [Bool.and_eq_true, decide_eq_true_eq] at h
      exact hgood ⟨h.1.1, h.1.2, h.2⟩)
    have HR2 := hid ((HR.out.below HB1.out).below hpi.out.2)
    have hnil : (w1.alloc (.cells #[.int .i64 (pgD bs).next, .slice A1 (pgD bs).l.length c1] 55)).ownsRow w1.heap.size 5 1 (.slice none 0 0) 0 [] := World.ownsRow_nil _ _ _ _
    have HN := hid hnil
    clear hpi
    by_cases hp : (pg bs).isSome = true
    · rw [hp]
      by_cases h0 : 0 ≤ m
      · have h1 : 4294967295 < m := by
          rcases Int.lt_or_le 4294967295 m with h | h
          · exact h
          · exact absurd ⟨hp, h0, h⟩ hgood
        clear hgood hp
        go_wp2_with (at_builtin; refine wpList_append_any _ rfl (.const (.slice none 0 0)) (.tmp 22) 23 rfl w1.heap.size 5 i5 _ 1 1 Try.underlying23 hi5 hy0 hy1 hy2 rfl (by omega) _ 0 [] rfl HN.out A n c _ rfl HR2.out (u8s_one _) (by unfold maxLen; omega) (by omega) (by simp) ?_)
        intro v3 w3 hown3 hg3 hat3
        have HC := hid (copy_out hown3 hg3 Hn.out)
        obtain ⟨A3, c3, rfl, _⟩ := own_form hown3
        clear hown3 hg3 hat3
        go_wp2
        go_ret
        rw [hg.out]
        exact ⟨_, rfl, HC.out.1.mono HB1.out.size, HB1.out.trans (HC.out.2.mono HB1.out.size)⟩
      · clear hgood hp
        go_wp2_with (at_builtin; refine wpList_append_any _ rfl (.const (.slice none 0 0)) (.tmp 22) 23 rfl w1.heap.size 5 i5 _ 1 1 Try.underlying23 hi5 hy0 hy1 hy2 rfl (by omega) _ 0 [] rfl HN.out A n c _ rfl HR2.out (u8s_one _) (by unfold maxLen; omega) (by omega) (by simp) ?_)
        intro v3 w3 hown3 hg3 hat3
        have HC := hid (copy_out hown3 hg3 Hn.out)
        obtain ⟨A3, c3, rfl, _⟩ := own_form hown3
        clear hown3 hg3 hat3
        go_wp2
        go_ret
        rw [hg.out]
        exact ⟨_, rfl, HC.out.1.mono HB1.out.size, HB1.out.trans (HC.out.2.mono HB1.out.size)⟩
    · have hp' : (pg bs).isSome = false := by simpa using hp
      rw [hp']
      clear hgood hp hp'
      go_wp2_with (at_builtin; refine wpList_append_any _ rfl (.const (.slice none 0 0)) (.tmp 22) 23 rfl w1.heap.size 5 i5 _ 1 1 Try.underlying23 hi5 hy0 hy1 hy2 rfl (by omega) _ 0 [] rfl HN.out A n c _ rfl HR2.out (u8s_one _) (by unfold maxLen; omega) (by omega) (by simp) ?_)
      intro v3 w3 hown3 hg3 hat3
      have HC := hid (copy_out hown3 hg3 Hn.out)
      obtain ⟨A3, c3, rfl, _⟩ := own_form hown3
      clear hown3 hg3 hat3
      go_wp2
      go_ret
      rw [hg.out]
      exact ⟨_, rfl, HC.out.1.mono HB1.out.size, HB1.out.trans (HC.out.2.mono HB1.out.size)⟩

/-- what Del answers -/
noncomputable def delE (bs : List UInt8) (i : Int) : Int := if (pg bs).isSome then (if (pgD bs).has i then 0 else 61) else 63
noncomputable def delO (bs : List UInt8) (i : Int) : List UInt8 := if (pg bs).isSome && (pgD bs).has i then MPage.bytes ⟨(pgD bs).next, (pgD bs).l.set i.toNat none⟩ else []
theorem sum_set_none (l : Recs) (k : Nat) : sum (l.set k none) ≤ sum l := by
  induction l generalizing k with
  | nil => simp [sum]
  | cons x l ih =>
    cases k with
    | zero => simp [sum]
    | succ k => have := ih k; simp [sum] at this ⊢; omega
theorem good_set_none {q : MPage} (h : Valid q) (k : Nat) : Good ⟨q.next, q.l.set k none⟩ := by
  have h1 := h.fits.1
  have h2 := sum_set_none q.l k
  have h3 := h.len
  refine ⟨trim_fits (by rw [List.length_set]; show 4 * q.l.length + sum (q.l.set k none) ≤ 498; omega) (fun r hr => ?_), h.n1, h.n2, by rw [List.length_set]; omega⟩
  rcases List.mem_or_eq_of_mem_set hr with h' | h'
  · exact h.fits.2 r h'
  · cases h'
theorem Good.len504 {q : MPage} (h : Good q) : q.bytes.length = 504 := h.length
set_option maxHeartbeats 1600000 in
theorem del_any (A : Option Addr) (n c : Nat) (bs : List UInt8) (i : Int) (w : World) (hr : Rd w 1 A n (u8s bs)) (hn : n = bs.length) (hc : n ≤ c) :
    Calls Try.prog 16 #[.slice A n c, .int .i64 i] w fun e w' => ∃ v, e = .returned (.tuple #[v, .int .i64 (delE bs i)]) ∧ OutB w.heap.size w' v (delO bs i) ∧ Below w.heap.size w w' := by
  have H := hid (read_pg A n c bs w hr hn hc)
  clear hr hn
  go_enter Try.func16, Try.ntmps16
  go_wp2_with fail
  refine H.out.mono ?_
  rintro e w1 ⟨A1, c1, rfl, hr1, hb1⟩
  have hpi := hid (page_in hr1 hb1.size)
  have HB1 := hid hb1
  have hhas := hid (has_any w.heap.size w1.heap.size (pgD bs) i _ hpi.out.1)
  have hbe := hid (HB1.out.trans (hpi.out.2.mono HB1.out.size))
  have hv := hid (pgD_valid bs)
  clear hr1 hb1 H
  cases hp : (pg bs).isSome with
  | false =>
    have hg1 : Hid (delE bs i = 63) := hid (by rw [delE, hp]; rfl)
    have hg2 : Hid (delO bs i = []) := hid (by rw [delO, hp]; rfl)
    clear hp
    go_wp2
    go_ret2
    rw [hg1.out, hg2.out]
    exact ⟨.slice none 0 0, rfl, OutB.nil, hbe.out⟩
  | true =>
    cases hh : (pgD bs).has i with
    | false =>
      have hg1 : Hid (delE bs i = 61) := hid (by rw [delE, hp, hh]; rfl)
      have hg2 : Hid (delO bs i = []) := hid (by rw [delO, hp, hh]; rfl)
      rw [hh] at hhas
      clear hp hh
      go_wp2_with fail
      refine hhas.out.mono ?_
      rintro e w2 ⟨rfl, rfl⟩
      go_wp2
      go_ret2
      rw [hg1.out, hg2.out]
      exact ⟨.slice none 0 0, rfl, OutB.nil, hbe.out⟩
    | true =>
      obtain ⟨k, r, rfl, hx⟩ := has_rec hh
      have hg1 : Hid (delE bs (k : Int) = 0) := hid (by rw [delE, hp, hh]; rfl)
      have hg2 : Hid (delO bs (k : Int) = MPage.bytes ⟨(pgD bs).next, (pgD bs).l.set k none⟩) := hid (by rw [delO, hp, hh]; rfl)
      rw [hh] at hhas
      generalize hw2 : w1.alloc (.cells #[.int .i64 (pgD bs).next, .slice A1 (pgD bs).l.length c1] 55) = w2
      rw [hw2] at hpi hhas hbe
      obtain ⟨_, lv, hb, hr⟩ := hpi.out.1
      obtain ⟨A3, c3, rfl, _⟩ := hr.form
      have hA : Value.slice A3 (pgD bs).l.length c3 = .slice A1 (pgD bs).l.length c1 := by
        have := hb.eq (by rw [← hw2]; exact Blk.new w1 55 _)
        simpa using this
      injection hA with hA _ hA2
      subst hA
      subst hA2
      have pc1 := blk2b hb
      obtain ⟨g, A2, c2, rfl, hg3, hcell, hfz, hAN, hel⟩ := hr.cell_ hx
      have hkl := (List.getElem?_eq_some_iff.1 hx).1
      have hkl' : (k : Int) < ((pgD bs).l.length : Int) := by omega
      have HP3 := hid (hpi.out.1.setAt hb hr hkl (v := .slice none 0 0) (x := none) rfl)
      have hgd := hid (good_set_none hv.out k)
      have hbs : Hid (Below w.heap.size w (w2.setCell ⟨g, k, none⟩ (.slice none 0 0))) := hid (hbe.out.trans (((Chg.refl (· = g) w2).setCell (p := ⟨g, k, none⟩) (fun _ => rfl) _).below hbe.out.size (fun i hi => by omega)))
      have hgw := hbe.out.size
      have hne := hid (hr.ne hb)
      have hcall := hid (bytes_any w.heap.size w1.heap.size _ _ HP3.out hgd.out)
      clear hp hh hb hr hel hx
      go_wp2_with fail
      refine hhas.out.mono ?_
      rintro e w3 ⟨rfl, rfl⟩
      go_wp2_with fail
      refine hcall.out.mono ?_
      rintro e w3 ⟨g3, rfl, hg3', hblk, hp1, hc1⟩
      have HO := hid (bytesOut (base := w.heap.size) hgd.out.length (by have := hbs.out.size; omega) hblk)
      have HB3 := hid (hbs.out.trans (hc1.below hbs.out.size (fun i hi => by have := HB1.out.size; omega)))
      clear hblk hp1 hc1
      go_wp2
      go_ret2
      rw [hg1.out, hg2.out]
      exact ⟨_, rfl, HO.out, HB3.out⟩
end Go.Proofs.Ytpdikmkhkiplbaa
