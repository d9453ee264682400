/- The document's with: a page with a slot's record, if it has room. Conditions: sizes. -/
import Derived.Test.YtpdikmkhkiplbaaRf2
namespace Go.Proofs.Ytpdikmkhkiplbaa
open Go.RowKit
set_option maxRecDepth 100000
set_option linter.unusedVariables false
set_option linter.unusedSimpArgs false

theorem scs_set (l : Recs) (k : Nat) (x : Option (List UInt8)) : scs (l.set k x) = if k < l.length then ((scs l).set (k * 2) (.bool x.isSome)).set (k * 2 + 1) (.string ⟨(x.getD []).toArray⟩) else scs l := by
  induction l generalizing k with
  | nil => simp [scs]
  | cons y l ih =>
    cases k with
    | zero => simp [scs, sv]
    | succ k =>
      rw [List.set_cons_succ, show scs (y :: l.set k x) = sv y ++ scs (l.set k x) from rfl, ih k, show scs (y :: l) = sv y ++ scs l from rfl]
      have e1 : (k + 1) * 2 = k * 2 + 1 + 1 := by omega
      by_cases hk : k < l.length
      · rw [if_pos hk, if_pos (by simp; omega), e1]
        simp [sv]
      · rw [if_neg hk, if_neg (by simp; omega)]
theorem SRd.rd {w : World} {A : Option Addr} {l : Recs} (h : SRd w A l) : Rd w 2 A l.length (scs l) := by
  refine ⟨length_scs l, fun hn => ?_⟩
  obtain ⟨b, o, rfl, hb, _⟩ := h 0 _ (List.getElem?_eq_getElem hn)
  refine ⟨_, rfl, hb, fun j u hu => ?_⟩
  have hj := (List.getElem?_eq_some_iff.1 hu).1
  rw [length_scs] at hj
  have hk : j / 2 < l.length := by omega
  obtain ⟨b', o', e, _, h1, h2⟩ := h (j / 2) _ (List.getElem?_eq_getElem hk)
  injection e with e
  injection e with e1 e2 _
  subst e1; subst e2
  obtain ⟨g1, g2⟩ := scs_at l (j / 2) _ (List.getElem?_eq_getElem hk)
  rw [Addr.add_lit]
  rcases Nat.mod_two_eq_zero_or_one j with h0 | h0
  · have e3 : j = j / 2 * 2 := by omega
    rw [← e3, hu] at g1
    rw [e3, h1, ← g1]
  · have e3 : j = j / 2 * 2 + 1 := by omega
    rw [← e3, hu] at g2
    rw [e3, ← Nat.add_assoc, h2, ← g2]
/-- a slot of a row of the call's own is laid anew -/
theorem own_setrec {w : World} {base g c : Nat} {l : Recs} (h : w.ownsRow base 70 2 (.slice (some ⟨g, 0, none⟩) l.length c) l.length (scs l)) (k : Nat) (hk : k < l.length) (x : Option (List UInt8)) :
    ((w.setCell ⟨g, k * 2, none⟩ (.bool x.isSome)).setCell ⟨g, k * 2 + 1, none⟩ (.string ⟨(x.getD []).toArray⟩)).ownsRow base 70 2 (.slice (some ⟨g, 0, none⟩) l.length c) l.length (scs (l.set k x)) := by
  have h1 := (h.stored (k * 2) (.bool x.isSome)).1
  have h2 := (h1.stored (k * 2 + 1) (.string ⟨(x.getD []).toArray⟩)).1
  rw [scs_set, if_pos hk]
  exact h2
theorem sv_one (x : Option (List UInt8)) : scs [x] = [.bool x.isSome, .string ⟨(x.getD []).toArray⟩] := rfl

/-- the document's page being made: box r at N + 1 (the result), q at N + 1 + 1, its row behind -/
structure WiS (w wr : World) (N : Nat) (m : Int) (lv v : Value) (l : Recs) : Prop where
  p : Blk wr N 66 #[.int .i64 m, lv]
  q : Blk wr (N + 1 + 1) 66 #[.int .i64 m, v]
  r : Blk wr (N + 1) 66 #[.int .i64 0, .slice none 0 0]
  row : wr.ownsRow (N + 3) 70 2 v l.length (scs l)
  be : Below w.heap.size w wr
  nw : w.heap.size ≤ N
section
variable {w wr wx w5 : World} {N : Nat} {m : Int} {lv v v' : Value} {l : Recs}
theorem WiS.below (h : WiS w wr N m lv v l) (hb : Below wr.heap.size wr wx) : WiS w wx N m lv v l :=
  ⟨h.p.below hb h.p.lt, h.q.below hb h.q.lt, h.r.below hb h.r.lt, own_chg h.row (Chg.of_below hb) (fun _ _ h => h), h.be.trans (hb.mono h.be.size), h.nw⟩
theorem WiS.push (h : WiS w wr N m lv v l) (a : Recs) (hg : wr.grownBy w5 v.ownBlock) (ho : w5.ownsRow (N + 3) 70 2 v' (l.length + a.length) (scs l ++ scs a)) :
    w5.cell? ⟨N + 1 + 1, 1, none⟩ = some v ∧ w5.frozen? ⟨N + 1 + 1, 1, none⟩ = false ∧ WiS w (w5.setCell ⟨N + 1 + 1, 1, none⟩ v') N m lv v' (l ++ a) := by
  have hB : ∀ g, v.ownBlock = some g → N + 3 ≤ g := fun g hg => (own_block h.row hg).1
  have hq := h.q.grown hg (fun e => by have := hB _ e.symm; omega)
  have hp := h.p.grown hg (fun e => by have := hB _ e.symm; omega)
  have hr := h.r.grown hg (fun e => by have := hB _ e.symm; omega)
  have hnw := h.nw
  have hbe : Below w.heap.size w (w5.setCell ⟨N + 1 + 1, 1, none⟩ v') := (h.be.trans ⟨hg.os, hg.tape, hg.output, hg.size, fun i hi => hg.block i (by have := h.be.size; omega) (fun e => by have := hB _ e.symm; omega)⟩ : Below w.heap.size w w5).trans ((chg_set (N + 1 + 1) 1 v').below (by have := h.be.size; have := hg.size; omega) (fun i hi => by omega))
  refine ⟨blk2b hq, hq.frozen 1, hp.far (by show N ≠ N + 1 + 1; omega) _, ?_, hr.far (by show N + 1 ≠ N + 1 + 1; omega) _, ?_, hbe, hnw⟩
  · have := hq.set_ 1 v'
    simpa using this
  · rw [List.length_append, scs_append]
    exact own_chg ho (chg_set (N + 1 + 1) 1 v') (fun g hg e => by have := (own_block ho hg).1; omega)
theorem WiS.setAt {g c : Nat} (h : WiS w wr N m lv (.slice (some ⟨g, 0, none⟩) l.length c) l) (k : Nat) (hk : k < l.length) (x : Option (List UInt8)) :
    (∃ u, wr.cell? ⟨g, k * 2, none⟩ = some u) ∧ (∃ u, wr.cell? ⟨g, k * 2 + 1, none⟩ = some u) ∧ (∀ j, wr.frozen? ⟨g, j, none⟩ = false) ∧
      WiS w ((wr.setCell ⟨g, k * 2, none⟩ (.bool x.isSome)).setCell ⟨g, k * 2 + 1, none⟩ (.string ⟨(x.getD []).toArray⟩)) N m lv (.slice (some ⟨g, 0, none⟩) l.length c) (l.set k x) := by
  have hg := (own_block h.row (g := g) rfl).1
  have hnw := h.nw
  have hc := chg_set2 (w := wr) g (k * 2) (k * 2 + 1) (.bool x.isSome) (.string ⟨(x.getD []).toArray⟩)
  obtain ⟨y, hy⟩ : ∃ y, l[k]? = some y := ⟨_, List.getElem?_eq_getElem hk⟩
  obtain ⟨e1, e2⟩ := scs_at l k y hy
  refine ⟨⟨_, (h.row.cellAt (k * 2) (by omega)).trans e1⟩, ⟨_, (h.row.cellAt (k * 2 + 1) (by omega)).trans e2⟩, fun j => h.row.frozenAt j, h.p.chg hc (by omega), h.q.chg hc (by omega), h.r.chg hc (by omega), ?_, h.be.trans (hc.below h.be.size (fun i hi => by omega)), hnw⟩
  rw [List.length_set]
  exact own_setrec h.row k hk x
end
def withL (l : Recs) (k : Nat) (d : List UInt8) : Recs := (if k = l.length then l ++ [none] else l).set k (some d)
theorem sum_set_le (l : Recs) (k : Nat) (d : List UInt8) : sum (l.set k (some d)) ≤ sum l + d.length := by
  induction l generalizing k with
  | nil => simp [sum]
  | cons x l ih =>
    cases k with
    | zero => simp [sum]; omega
    | succ k => have := ih k; simp [sum] at this ⊢; omega

/-- what with tells -/
def WithPost (A : Option Addr) (c : Nat) (m : Int) (l : Recs) (k : Nat) (d : List UInt8) (w : World) (e : Ending) (w' : World) : Prop :=
  Below w.heap.size w w' ∧ if 498 < 4 * (withL l k d).length + sum (withL l k d) then e = .returned (.tuple #[.agg #[.int .i64 m, .slice A l.length c], .int .i64 60])
    else ∃ A' c', e = .returned (.tuple #[.agg #[.int .i64 m, .slice A' (withL l k d).length c'], .int .i64 0]) ∧ SRd w' A' (withL l k d)
theorem info70w : (Try.prog.info? 70).map (fun i => (i.zero, i.size, i.bytes)) = some (some (.agg #[.bool false, .string ⟨#[]⟩]), 2, 24) := by kernel_rfl
theorem wiS_start (w : World) (m : Int) (lv : Value) : WiS w (((w.alloc (.cells #[.int .i64 m, lv] 66)).alloc (.cells #[.int .i64 0, .slice none 0 0] 66)).alloc (.cells #[.int .i64 m, .slice none 0 0] 66)) w.heap.size m lv (.slice none 0 0) [] := by
  have h0 := Blk.new w 66 #[.int .i64 m, lv]
  have h1 := Blk.new (w.alloc (.cells #[.int .i64 m, lv] 66)) 66 #[.int .i64 0, .slice none 0 0]
  have h2 := Blk.new ((w.alloc (.cells #[.int .i64 m, lv] 66)).alloc (.cells #[.int .i64 0, .slice none 0 0] 66)) 66 #[.int .i64 m, .slice none 0 0]
  refine ⟨(h0.alloc _).alloc _, ?_, ?_, World.ownsRow_nil _ _ _ _, (((Below.refl _ _).alloc (Nat.le_refl _) _).alloc (by simp) _).alloc (by simp; omega) _, Nat.le_refl _⟩
  · rw [show ((w.alloc (.cells #[.int .i64 m, lv] 66)).alloc (.cells #[.int .i64 0, .slice none 0 0] 66)).heap.size = w.heap.size + 1 + 1 by simp] at h2
    exact h2
  · rw [show (w.alloc (.cells #[.int .i64 m, lv] 66)).heap.size = w.heap.size + 1 by simp] at h1
    exact h1.alloc _
theorem rd_pair (w : World) (t : TypeId) (a b : Value) : Rd (w.alloc (.cells #[a, b] t)) 2 (some ⟨w.heap.size, 0, none⟩) 1 [a, b] :=
  ⟨rfl, fun _ => ⟨_, rfl, by simp, fun j u hu => by rw [Addr.add_lit, Nat.zero_add, (Blk.new w t #[a, b]).cell]; simpa using hu⟩⟩
set_option maxHeartbeats 3200000 in
theorem rwith_any (A : Option Addr) (c : Nat) (m : Int) (l : Recs) (k : Nat) (A2 : Option Addr) (n2 c2 : Nat) (d : List UInt8) (w : World) (h : SRd w A l) (hk : k ≤ l.length) (hf : 4 * l.length + sum l ≤ 498) (hd : Rd w 1 A2 n2 (u8s d)) (hn2 : n2 = d.length) (h480 : d.length ≤ 480) :
    Calls Try.prog 37 #[.agg #[.int .i64 m, .slice A l.length c], .int .i64 k, .slice A2 n2 c2] w fun e w' =>
      WithPost A c m l k d w e w' := by
  obtain ⟨i70, hi70, hz0, hz1, hz2⟩ := info_parts info70w
  have hS0 := wiS_start w m (.slice A l.length c)
  have HSR := hid (h.below hS0.be)
  have HD := hid (hd.below hS0.be)
  have HS0 := hid hS0
  have Hn2 := hid hn2
  obtain ⟨pc0, pc1, _⟩ := blk2 hS0.p
  obtain ⟨qc0, qc1, _⟩ := blk2 hS0.q
  have hl124 : l.length ≤ 124 := by omega
  have HD0 := hid hd
  clear h hd hS0 hn2
  go_enter Try.func37, Try.ntmps37
  have hN3 : w.heap.size + 3 ≤ (((w.alloc (.cells #[.int .i64 m, .slice A l.length c] 66)).alloc (.cells #[.int .i64 0, .slice none 0 0] 66)).alloc (.cells #[.int .i64 m, .slice none 0 0] 66)).heap.size := by simp
  go_wp2_with (at_builtin; refine wpList_append_any _ rfl (.tmp 13) (.tmp 15) 64 rfl (w.heap.size + 3) 70 i70 _ 2 24 Try.underlying64 hi70 hz0 hz1 hz2 rfl (by omega) _ 0 [] rfl (World.ownsRow_nil _ _ _ _) A l.length c _ rfl HSR.out.rd (scs_one l) (by unfold maxLen; omega) (by omega) hN3 ?_)
  intro v5 w5 hown5 hg5 hat5
  obtain ⟨hc5, hf5, hp5⟩ := HS0.out.push l hg5 (by simpa [scs] using hown5)
  rw [List.nil_append] at hp5
  obtain ⟨A5, c5, rfl, _⟩ := own_form hown5
  have HP := hid hp5
  obtain ⟨pd0, pd1, _⟩ := blk2 hp5.p
  obtain ⟨qd0, qd1, qd2⟩ := blk2 hp5.q
  clear hown5 hg5 hat5 hp5 HS0 HSR HD pc0 pc1 qc0 qc1
  go_upto_region 3 with fail
  generalize hw6 : w5.setCell ⟨w.heap.size + 1 + 1, 1, none⟩ (.slice A5 l.length c5) = w6
  rw [hw6] at HP pd0 pd1 qd0 qd1 qd2
  have HDD := hid (HD0.out.below HP.out.be)
  have HD00 := hid HD0.out
  clear hw6 HD0
  by_cases hkl : k = l.length
  · as_aux_lemma =>
    subst hkl
    have hkb : ((l.length : Int) == (l.length : Int)) = true := by simp
    obtain ⟨L, hL⟩ : ∃ L, L = l ++ [none] := ⟨_, rfl⟩
    have hLe : Hid ((if l.length = l.length then l ++ [none] else l) = L) := hid (by rw [if_pos rfl, hL])
    have HPa := hid (HP.out.below ((Below.refl _ w6).alloc (Nat.le_refl _) (.cells #[.bool false, .string ⟨#[]⟩] 70)))
    have hbz : w.heap.size + 1 + 1 + 1 ≤ (w6.alloc (.cells #[.bool false, .string ⟨#[]⟩] 70)).heap.size := HPa.out.q.lt
    go_wp2_with (at_builtin; refine wpList_append_any _ rfl (.tmp 24) (.tmp 26) 64 rfl (w.heap.size + 1 + 1 + 1) 70 i70 _ 2 24 Try.underlying64 hi70 hz0 hz1 hz2 rfl (by omega) _ l.length (scs l) rfl HPa.out.row _ 1 1 _ rfl (rd_pair _ _ _ _) (by simp [Value.oneCell']) (by unfold maxLen; omega) (by omega) hbz ?_)
    intro v7 w7 hown7 hg7 hat7
    obtain ⟨hc7, hf7, hp7⟩ := HPa.out.push [none] hg7 hown7
    obtain ⟨A6, c6, rfl, _⟩ := own_form hown7
    rw [← hL] at hp7
    have hLl : L.length = l.length + 1 := by rw [hL]; simp
    have HLn := hid hL.symm
    have hL1 : L.length ≤ l.length + 1 := by omega
    have hL0 : l.length + 1 ≤ L.length := by omega
    have hsL : sum L ≤ sum l := by rw [hL, sum_snoc]; simp
    go_upto_region 5 with fail
    rw [← hLl]
    rw [← hLl] at hown7 hp7
    generalize hw8 : w7.setCell ⟨w.heap.size + 1 + 1, 1, none⟩ (.slice A6 L.length c6) = w8
    rw [hw8] at hp7
    clear HP
    have HP := hid hp7
    clear HDD
    have HDD := hid (HD00.out.below hp7.be)
    clear hown7 hg7 hat7 hp7
    obtain ⟨pd0, pd1, _⟩ := blk2 HP.out.p
    obtain ⟨qd0, qd1, qd2⟩ := blk2 HP.out.q
    clear hLl hL
    have hkl2 : l.length < L.length := by omega
    have hL124 : L.length ≤ 125 := by omega
    obtain ⟨g, cap, hv, _, _⟩ := HP.out.row.form (by omega)
    injection hv with hA _ hcap
    subst hA hcap
    obtain ⟨⟨u1, hu1⟩, ⟨u2, hu2⟩, hfz, hP7⟩ := HP.out.setAt l.length hkl2 (some d)
    simp only [Option.isSome_some, Option.getD_some] at hP7
    have hs0 := run_str w8 A2 n2 c2 d (by first | exact HDD.out | exact HDD.out.drew)
    have hkL : (l.length : Int) < (L.length : Int) := by omega
    have hf0 := hfz (l.length * 2)
    have hf1 := hfz (l.length * 2 + 1)
    have HP7 := hid hP7
    obtain ⟨pe0, pe1, _⟩ := blk2 hP7.p
    obtain ⟨qe0, qe1, _⟩ := blk2 hP7.q
    have hL2 : Hid (withL l l.length d = L.set l.length (some d)) := hid (by rw [withL]; first | rw [hLe.out] | (rw [if_pos rfl]; rw [HLn.out]))
    have hsl := sum_set_le L l.length d
    have hszc := hid (size_any (some ⟨g, 0, none⟩) c6 (L.set l.length (some d)) _ (SRd.of_own (c := c6) (by rw [List.length_set]; have := hP7.row; rw [List.length_set] at this; exact this)) (by rw [List.length_set]; omega) (by omega))
    rw [List.length_set] at hszc
    clear hfz hP7
    go_wp2_with fail
    refine hszc.out.mono ?_
    rintro e w9 ⟨rfl, rfl⟩
    clear hszc hs0
    obtain ⟨v0, v1, wc0, wc1, wf0, wf1, HBx⟩ := HP7.out.r.any2
    by_cases hfit : 498 < 4 * L.length + sum (L.set l.length (some d))
    · have hfi : 504 < 6 + 4 * (L.length : Int) + (sum (L.set l.length (some d)) : Int) := by omega
      go_wp2_with fail
      refine bodyPost_ret (results_cell2 rfl _ _ (w.heap.size + 1) 66 _ _ rfl (blk_store2 _ _ HBx.out) Try.underlying66 rfl (by kernel_rfl)) rfl ?_
      have hBS := (HP7.out.be).trans ((chg_set2 (w.heap.size + 1) 0 1 (.int .i64 m) (.slice A l.length c)).below HP7.out.be.size (fun i hi => by omega))
      unfold WithPost
      refine ⟨hBS, ?_⟩
      rw [hL2.out, List.length_set, if_pos hfit]
      rfl
    · have hfi : ¬ (504 < 6 + 4 * (L.length : Int) + (sum (L.set l.length (some d)) : Int)) := by omega
      go_wp2_with fail
      refine bodyPost_ret (results_cell2 rfl _ _ (w.heap.size + 1) 66 _ _ rfl (blk_store2 _ _ HBx.out) Try.underlying66 rfl (by kernel_rfl)) rfl ?_
      have hBS := (HP7.out.be).trans ((chg_set2 (w.heap.size + 1) 0 1 (.int .i64 m) (.slice (some ⟨g, 0, none⟩) L.length c6)).below HP7.out.be.size (fun i hi => by omega))
      unfold WithPost
      refine ⟨hBS, ?_⟩
      rw [hL2.out, List.length_set, if_neg hfit]
      refine ⟨some ⟨g, 0, none⟩, c6, rfl, SRd.of_own (c := c6) (base := w.heap.size + 1 + 1 + 1) ?_⟩
      rw [List.length_set]
      refine own_chg ?_ (chg_set2 (w.heap.size + 1) 0 1 _ _) (fun g' hg e => by have := (own_block HP7.out.row hg).1; omega)
      have := HP7.out.row
      rw [List.length_set] at this
      exact this
  · as_aux_lemma =>
    have hkb : ((k : Int) == (l.length : Int)) = false := beq_eq_false_iff_ne.mpr (by omega)
    have hLe : Hid ((if k = l.length then l ++ [none] else l) = l) := hid (by rw [if_neg hkl])
    have hL1 : l.length ≤ l.length + 1 := by omega
    have hsL : sum l ≤ sum l := by omega
    have hkl2 : k < l.length := by omega
    have hL124 : l.length ≤ 125 := by omega
    obtain ⟨g, cap, hv, _, _⟩ := HP.out.row.form (by omega)
    injection hv with hA _ hcap
    subst hA hcap
    obtain ⟨⟨u1, hu1⟩, ⟨u2, hu2⟩, hfz, hP7⟩ := HP.out.setAt k hkl2 (some d)
    simp only [Option.isSome_some, Option.getD_some] at hP7
    have hs0 := run_str w6 A2 n2 c2 d (by first | exact HDD.out | exact HDD.out.drew)
    have hkL : (k : Int) < (l.length : Int) := by omega
    have hf0 := hfz (k * 2)
    have hf1 := hfz (k * 2 + 1)
    have HP7 := hid hP7
    obtain ⟨pe0, pe1, _⟩ := blk2 hP7.p
    obtain ⟨qe0, qe1, _⟩ := blk2 hP7.q
    have hL2 : Hid (withL l k d = l.set k (some d)) := hid (by rw [withL]; first | rw [hLe.out] | (rw [if_pos rfl]; rw [HLn.out]))
    have hsl := sum_set_le l k d
    have hszc := hid (size_any (some ⟨g, 0, none⟩) c5 (l.set k (some d)) _ (SRd.of_own (c := c5) (by rw [List.length_set]; have := hP7.row; rw [List.length_set] at this; exact this)) (by rw [List.length_set]; omega) (by omega))
    rw [List.length_set] at hszc
    clear hfz hP7
    go_wp2_with fail
    refine hszc.out.mono ?_
    rintro e w9 ⟨rfl, rfl⟩
    clear hszc hs0
    obtain ⟨v0, v1, wc0, wc1, wf0, wf1, HBx⟩ := HP7.out.r.any2
    by_cases hfit : 498 < 4 * l.length + sum (l.set k (some d))
    · have hfi : 504 < 6 + 4 * (l.length : Int) + (sum (l.set k (some d)) : Int) := by omega
      go_wp2_with fail
      refine bodyPost_ret (results_cell2 rfl _ _ (w.heap.size + 1) 66 _ _ rfl (blk_store2 _ _ HBx.out) Try.underlying66 rfl (by kernel_rfl)) rfl ?_
      have hBS := (HP7.out.be).trans ((chg_set2 (w.heap.size + 1) 0 1 (.int .i64 m) (.slice A l.length c)).below HP7.out.be.size (fun i hi => by omega))
      unfold WithPost
      refine ⟨hBS, ?_⟩
      rw [hL2.out, List.length_set, if_pos hfit]
      rfl
    · have hfi : ¬ (504 < 6 + 4 * (l.length : Int) + (sum (l.set k (some d)) : Int)) := by omega
      go_wp2_with fail
      refine bodyPost_ret (results_cell2 rfl _ _ (w.heap.size + 1) 66 _ _ rfl (blk_store2 _ _ HBx.out) Try.underlying66 rfl (by kernel_rfl)) rfl ?_
      have hBS := (HP7.out.be).trans ((chg_set2 (w.heap.size + 1) 0 1 (.int .i64 m) (.slice (some ⟨g, 0, none⟩) l.length c5)).below HP7.out.be.size (fun i hi => by omega))
      unfold WithPost
      refine ⟨hBS, ?_⟩
      rw [hL2.out, List.length_set, if_neg hfit]
      refine ⟨some ⟨g, 0, none⟩, c5, rfl, SRd.of_own (c := c5) (base := w.heap.size + 1 + 1 + 1) ?_⟩
      rw [List.length_set]
      refine own_chg ?_ (chg_set2 (w.heap.size + 1) 0 1 _ _) (fun g' hg e => by have := (own_block HP7.out.row hg).1; omega)
      have := HP7.out.row
      rw [List.length_set] at this
      exact this
end Go.Proofs.Ytpdikmkhkiplbaa
