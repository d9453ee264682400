/- The document's has, Get, Free, Slots, New and SetNext: they answer as package slot does. Conditions: none but what a slice is. -/
import Derived.Test.YtpdikmkhkiplbaaRf3
namespace Go.Proofs.Ytpdikmkhkiplbaa
open Go.RowKit
set_option maxRecDepth 100000
set_option linter.unusedVariables false
set_option linter.unusedSimpArgs false

/-- bytes that can be read -/
def RdB (w : World) (v : Value) (bs : List UInt8) : Prop := ∃ A c, v = .slice A bs.length c ∧ bs.length ≤ c ∧ Rd w 1 A bs.length (u8s bs)
theorem OutB.rdB {base : Nat} {w : World} {v : Value} {bs : List UInt8} (h : OutB base w v bs) : RdB w v bs := by
  obtain ⟨A, c, rfl, hl, hn⟩ := h
  exact ⟨A, c, rfl, hl, hn.rd⟩
theorem RdB.below {w w' : World} {v : Value} {bs : List UInt8} (h : RdB w v bs) (hb : Below w.heap.size w w') : RdB w' v bs := by
  obtain ⟨A, c, rfl, hl, hn⟩ := h
  exact ⟨A, c, rfl, hl, hn.below hb⟩
theorem box66 (w : World) (m : Int) (v : Value) : Below w.heap.size w (w.alloc (.cells #[.int .i64 m, v] 66)) ∧ Blk (w.alloc (.cells #[.int .i64 m, v] 66)) w.heap.size 66 #[.int .i64 m, v] :=
  ⟨(Below.refl _ _).alloc (Nat.le_refl _) _, Blk.new w 66 _⟩

set_option maxHeartbeats 1600000 in
theorem rhas_any (A : Option Addr) (c : Nat) (m : Int) (l : Recs) (i : Int) (w : World) (h : SRd w A l) :
    Calls Try.prog 38 #[.agg #[.int .i64 m, .slice A l.length c], .int .i64 i] w fun e w' => e = .returned (.bool (MPage.has ⟨m, l⟩ i)) ∧ Below w.heap.size w w' := by
  obtain ⟨hbx, hbl⟩ := box66 w m (.slice A l.length c)
  have HS := hid (h.below hbx)
  have HB := hid hbx
  obtain ⟨pc0, pc1, _⟩ := blk2 hbl
  clear h hbx hbl
  generalize hw0 : w.alloc (.cells #[.int .i64 m, .slice A l.length c] 66) = w0 at *
  have hh0 : ∀ i : Int, MPage.has ⟨m, l⟩ i = (decide (0 ≤ i) && decide (i < l.length) && ((l.getD i.toNat none).isSome)) := fun _ => rfl
  by_cases h0 : 0 ≤ i
  · by_cases h1 : i < l.length
    · obtain ⟨k, rfl⟩ : ∃ k : Nat, i = k := ⟨i.toNat, by omega⟩
      have hk : k < l.length := by omega
      obtain ⟨x, hx⟩ : ∃ x, l[k]? = some x := ⟨_, List.getElem?_eq_getElem hk⟩
      obtain ⟨b, o, rfl, hb, h21, _⟩ := HS.out k x hx
      have hh : Hid (MPage.has ⟨m, l⟩ (k : Int) = x.isSome) := hid (by
        rw [hh0]
        have e : l.getD k none = x := by rw [List.getD_eq_getElem?_getD, hx]; rfl
        rw [Int.toNat_natCast, e]
        simp [hk])
      clear hh0 hx
      go_enter Try.func38, Try.ntmps38
      go_wp2
      go_ret
      rw [hh.out]
      exact ⟨rfl, HB.out⟩
    · have hh : Hid (MPage.has ⟨m, l⟩ i = false) := hid (by rw [hh0]; simp; omega)
      clear hh0
      go_enter Try.func38, Try.ntmps38
      go_wp2
      go_ret
      rw [hh.out]
      exact ⟨rfl, HB.out⟩
  · have hh : Hid (MPage.has ⟨m, l⟩ i = false) := hid (by rw [hh0]; simp; omega)
    clear hh0
    go_enter Try.func38, Try.ntmps38
    go_wp2
    go_ret
    rw [hh.out]
    exact ⟨rfl, HB.out⟩

/-- what is known behind a Read -/
structure AfterR (w w1 : World) (A : Option Addr) (c : Nat) (q : MPage) (w2 : World) : Prop where
  sr : SRd w2 A q.l
  bx : Blk w2 w1.heap.size 66 #[.int .i64 q.next, .slice A q.l.length c]
  be : Below w.heap.size w w2
  sz : w.heap.size ≤ w1.heap.size
theorem afterR {w w1 : World} {A : Option Addr} {c : Nat} {q : MPage} (ho : w1.ownsRow w.heap.size 70 2 (.slice A q.l.length c) q.l.length (scs q.l)) (hb : Below w.heap.size w w1) : AfterR w w1 A c q (w1.alloc (.cells #[.int .i64 q.next, .slice A q.l.length c] 66)) := by
  obtain ⟨h1, h2⟩ := box66 w1 q.next (.slice A q.l.length c)
  exact ⟨(SRd.of_own ho).below h1, h2, hb.trans (h1.mono hb.size), hb.size⟩

set_option maxHeartbeats 1600000 in
theorem rget_any (A : Option Addr) (n c : Nat) (bs : List UInt8) (i : Int) (w : World) (hr : Rd w 1 A n (u8s bs)) (hn : n = bs.length) (hc : n ≤ c) :
    Calls Try.prog 39 #[.slice A n c, .int .i64 i] w fun e w' => e = .returned (.tuple #[.string ⟨((getB bs i).getD []).toArray⟩, .bool (getB bs i).isSome]) ∧ Below w.heap.size w w' := by
  have H := hid (rread_any A n c bs w hr hn hc)
  clear hr hn
  go_enter Try.func39, Try.ntmps39
  go_wp2_with fail
  refine H.out.mono ?_
  rintro e w1 ⟨A1, c1, rfl, ho1, hb1⟩
  have HA := hid (afterR ho1 hb1)
  clear ho1 hb1 H
  obtain ⟨pc0, pc1, _⟩ := blk2 HA.out.bx
  have hhas := hid (rhas_any A1 c1 (pgD bs).next (pgD bs).l i _ HA.out.sr)
  cases hp : (pg bs).isSome with
  | false =>
    have hg : Hid (getB bs i = none) := hid (by rw [getB, hp]; rfl)
    clear hp
    go_wp2
    go_ret2
    rw [hg.out]
    exact ⟨rfl, HA.out.be⟩
  | true =>
    cases hh : (pgD bs).has i with
    | false =>
      have hg : Hid (getB bs i = none) := hid (by rw [getB, hp, hh]; rfl)
      have hhas : Hid (Calls Try.prog 38 #[.agg #[.int .i64 (pgD bs).next, .slice A1 (pgD bs).l.length c1], .int .i64 i] (w1.alloc (.cells #[.int .i64 (pgD bs).next, .slice A1 (pgD bs).l.length c1] 66)) fun e w' => e = .returned (.bool false) ∧ Below (w1.alloc (.cells #[.int .i64 (pgD bs).next, .slice A1 (pgD bs).l.length c1] 66)).heap.size (w1.alloc (.cells #[.int .i64 (pgD bs).next, .slice A1 (pgD bs).l.length c1] 66)) w') := by rw [← hh]; exact hhas
      clear hp hh
      go_wp2_with fail
      refine hhas.out.mono ?_
      rintro e w3 ⟨rfl, hb3⟩
      have hbe := hid (HA.out.be.trans (hb3.mono HA.out.be.size))
      clear hb3
      go_wp2
      go_ret2
      rw [hg.out]
      exact ⟨rfl, hbe.out⟩
    | true =>
      obtain ⟨k, r, rfl, hx⟩ := has_rec hh
      have hg : Hid (getB bs (k : Int) = some r) := hid (by rw [getB, hp, hh]; simp [List.getD_eq_getElem?_getD, hx])
      have hhas : Hid (Calls Try.prog 38 #[.agg #[.int .i64 (pgD bs).next, .slice A1 (pgD bs).l.length c1], .int .i64 k] (w1.alloc (.cells #[.int .i64 (pgD bs).next, .slice A1 (pgD bs).l.length c1] 66)) fun e w' => e = .returned (.bool true) ∧ Below (w1.alloc (.cells #[.int .i64 (pgD bs).next, .slice A1 (pgD bs).l.length c1] 66)).heap.size (w1.alloc (.cells #[.int .i64 (pgD bs).next, .slice A1 (pgD bs).l.length c1] 66)) w') := by rw [← hh]; exact hhas
      have hkl := (List.getElem?_eq_some_iff.1 hx).1
      have hkl' : (k : Int) < ((pgD bs).l.length : Int) := by omega
      have Hx := hid hx
      clear hp hh hx
      go_wp2_with fail
      refine hhas.out.mono ?_
      rintro e w3 ⟨rfl, hb3⟩
      have hbe := hid (HA.out.be.trans (hb3.mono HA.out.be.size))
      obtain ⟨b, o, rfl, hb, h21, h22⟩ := (HA.out.sr.below hb3) k _ Hx.out
      obtain ⟨pd0, pd1, _⟩ := blk2 (HA.out.bx.below hb3 HA.out.bx.lt)
      simp only [Option.getD_some] at h22
      clear hb3 pc0 pc1
      go_wp2
      go_ret2
      rw [hg.out]
      exact ⟨rfl, hbe.out⟩

set_option maxHeartbeats 1600000 in
theorem rfree_any (A : Option Addr) (n c : Nat) (bs : List UInt8) (w : World) (hr : Rd w 1 A n (u8s bs)) (hn : n = bs.length) (hc : n ≤ c) :
    Calls Try.prog 42 #[.slice A n c] w fun e w' => e = .returned (.int .i64 (freeB bs)) ∧ Below w.heap.size w w' := by
  have H := hid (rread_any A n c bs w hr hn hc)
  clear hr hn
  go_enter Try.func42, Try.ntmps42
  go_wp2_with fail
  refine H.out.mono ?_
  rintro e w1 ⟨A1, c1, rfl, ho1, hb1⟩
  have HA := hid (afterR ho1 hb1)
  clear ho1 hb1 H
  obtain ⟨pc0, pc1, _⟩ := blk2 HA.out.bx
  have hv := pgD_valid bs
  have h1 := hv.len
  have h2 := hv.fits.1
  have hsz := hid (size_any A1 c1 (pgD bs).l _ HA.out.sr (by omega) (by omega))
  clear hv
  cases hp : pg bs with
  | none =>
    have hg : Hid (freeB bs = 0) := hid (by rw [freeB, hp])
    clear hp
    simp only [Option.isSome_none]
    go_wp2
    go_ret
    rw [hg.out]
    exact ⟨rfl, HA.out.be⟩
  | some q =>
    have hg : Hid (freeB bs = min 480 (max 0 (494 - 4 * ((pgD bs).l.length : Int) - (sum (pgD bs).l : Int)))) := hid (by rw [freeB, hp, pgD_some hp])
    clear hp
    simp only [Option.isSome_some]
    go_wp2_with fail
    refine hsz.out.mono ?_
    rintro e w3 ⟨rfl, rfl⟩
    go_wp2
    all_goals
      go_ret
      rw [hg.out]
      refine ⟨congrArg (fun z => Ending.returned (.int .i64 z)) ?_, HA.out.be⟩
      first
        | omega
        | (split at * <;> omega)

set_option maxHeartbeats 1600000 in
theorem rnew_any (w : World) : Calls Try.prog 19 #[] w fun e w' => ∃ v, e = .returned v ∧ OutB w.heap.size w' v (MPage.bytes ⟨0, []⟩) ∧ Below w.heap.size w w' := by
  have hcall := hid (rbytes_any none 0 0 [] w (fun k x h => by simp at h) (by omega) (by simp [sum]))
  have e : page 0 ([] : Recs).length (st []) = MPage.bytes ⟨0, []⟩ := rfl
  rw [e] at hcall
  clear e
  go_enter Try.func19, Try.ntmps19
  go_wp2_with fail
  refine hcall.out.mono ?_
  rintro e w1 ⟨v, rfl, ho, hb⟩
  obtain ⟨A1, c1, rfl, HO⟩ := ho.split
  have HB := hid hb
  clear ho hb
  go_wp2
  go_ret
  exact ⟨_, rfl, HO.out, HB.out⟩

set_option maxHeartbeats 1600000 in
theorem rslots_any (A : Option Addr) (n c : Nat) (bs : List UInt8) (w : World) (hr : Rd w 1 A n (u8s bs)) (hn : n = bs.length) (hc : n ≤ c) :
    Calls Try.prog 41 #[.slice A n c] w fun e w' => ∃ v, e = .returned v ∧ OutI w.heap.size w' v (slotsB bs) ∧ Below w.heap.size w w' := by
  have H := hid (rread_any A n c bs w hr hn hc)
  obtain ⟨i3, hi3, hy0, hy1, hy2⟩ := info_parts info31
  clear hr hn
  go_enter Try.func41, Try.ntmps41
  go_wp2_with fail
  refine H.out.mono ?_
  rintro e w1 ⟨A1, c1, rfl, ho1, hb1⟩
  have HA := hid (afterR ho1 hb1)
  have HO1 := hid (own_chg ho1 (Chg.of_below (box66 w1 (pgD bs).next (.slice A1 (pgD bs).l.length c1)).1) (fun _ _ h => h))
  have hv := pgD_valid bs
  have hle := hv.len
  have hsB : Hid (slotsB bs = idx (pgD bs).l (pgD bs).l.length) := hid rfl
  have hsz1 : w.heap.size ≤ w1.heap.size := hb1.size
  clear ho1 hb1 H hv
  go_wp2_with fail
  generalize hw2 : w1.alloc (.cells #[.int .i64 (pgD bs).next, .slice A1 (pgD bs).l.length c1] 66) = w2
  rw [hw2] at HA HO1
  have hle2 : (pgD bs).l.length ≤ 124 := hle
  obtain ⟨l, hl⟩ : ∃ l, l = (pgD bs).l := ⟨_, rfl⟩
  obtain ⟨m, hm⟩ : ∃ m, m = (pgD bs).next := ⟨_, rfl⟩
  have HA2 : Hid (Blk w2 w1.heap.size 66 #[.int .i64 m, .slice A1 l.length c1] ∧ Below w.heap.size w w2) := hid ⟨by rw [hl, hm]; exact HA.out.bx, HA.out.be⟩
  rw [← hl] at HO1 hsB hle2
  clear hw2 HA hle hm hl
  go_loopw [5, 6] (fun o i wr => ∃ k : Nat, k ≤ l.length ∧ i = .int .i64 k ∧ wr.ownsRow w.heap.size 3 1 o (idx l k).length (ints (idx l k)) ∧ wr.ownsRow w.heap.size 70 2 (.slice A1 l.length c1) l.length (scs l) ∧ Blk wr w1.heap.size 66 #[.int .i64 m, .slice A1 l.length c1] ∧ Below w.heap.size w wr) (fun _ i _ => l.length - (intOf i).toNat)
  case atStart => exact ⟨0, by omega, rfl, World.ownsRow_nil _ _ _ _, HO1.out, HA2.out.1, HA2.out.2⟩
  case round =>
    obtain ⟨k, hk, rfl, ho, hrr, hbx, hbr⟩ := hrel
    have HO := hid ho
    have HRR := hid hrr
    have HBR := hid hbr
    have HBX := hid hbx
    obtain ⟨pc0, pc1, _⟩ := blk2 hbx
    have hlk := length_idx l k
    obtain ⟨A2, c2, rfl, _⟩ := own_form ho
    clear ho hbr hbx HO1 HA2
    by_cases hlt : k < l.length
    · obtain ⟨x, hx⟩ : ∃ x, l[k]? = some x := ⟨_, List.getElem?_eq_getElem hlt⟩
      obtain ⟨b, o, rfl, hb, h21, _⟩ := SRd.of_own hrr k x hx
      have hlt' : (k : Int) < (l.length : Int) := by omega
      have hsx : Hid (idx l (k + 1) = idx l k ++ (if x.isSome then [k] else [])) := hid (by
        show idx l k ++ _ = _
        rw [List.getD_eq_getElem?_getD, hx]
        rfl)
      clear hrr hx
      cases x with
      | none =>
        simp only [Option.isSome_none] at h21 hsx
        go_wp2
        go_roundw
        case rel => exact ⟨k + 1, by omega, by go_num, by rw [hsx.out]; simpa using HO.out, HRR.out, HBX.out, HBR.out⟩
        case measure => simp [intOf]; omega
      | some r =>
        simp only [Option.isSome_some] at h21 hsx
        have hHO := hid (own_chg HO.out (Chg.of_below ((Below.refl _ wr).alloc (Nat.le_refl _) (.cells #[.int .i64 k] 3))) (fun _ _ h => h))
        have hsz : w.heap.size ≤ (wr.alloc (.cells #[.int .i64 k] 3)).heap.size := by have := HBR.out.size; simp; omega
        go_wp2_with (at_builtin; refine wpList_append_any _ rfl (.tmp 25) (.tmp 27) 31 rfl w.heap.size 3 i3 _ 1 8 Try.underlying31 hi3 hy0 hy1 hy2 rfl (by omega) _ (idx l k).length _ rfl hHO.out _ 1 1 _ rfl (rd_one1 _ _ _) (by simp [Value.oneCell']) (by unfold maxLen; omega) (by omega) hsz ?_)
        intro v5 w5 hown5 hg5 hat5
        have HO5 : Hid (w5.ownsRow w.heap.size 3 1 v5 (idx l (k + 1)).length (ints (idx l (k + 1)))) := hid (by
          rw [hsx.out]
          simpa [ints] using hown5)
        have hc5 : Chg (fun g => Value.ownBlock (.slice A2 (idx l k).length c2) = some g) wr w5 := ((Chg.refl _ wr).alloc _).grown hg5 (fun k hk _ => hk)
        have HR5 := hid (own_chg HRR.out hc5 (fun g hg hs => by
            obtain ⟨cs, hk⟩ := own_ty HRR.out hg
            obtain ⟨cs', hk'⟩ := own_ty HO.out hs
            exact hk.ne_ hk' (by decide) rfl))
        have HX5 := hid (HBX.out.chg hc5 (fun hs => by
            obtain ⟨cs', hk'⟩ := own_ty HO.out hs
            exact HBX.out.ne_ hk' (by decide) rfl))
        have HB5 := hid (HBR.out.trans (hc5.below HBR.out.size (fun g hg => (own_block HO.out hg).1)))
        clear hown5 hg5 hat5 hc5
        go_wp2
        go_roundw
        case rel => exact ⟨k + 1, by omega, by go_num, HO5.out, HR5.out, HX5.out, HB5.out⟩
        case measure => simp [intOf]; omega
    · have hkl : k = l.length := by omega
      subst hkl
      have hcap := hid (own_cap HO.out)
      have hlt' : ¬ ((l.length : Int) < (l.length : Int)) := by omega
      clear hrr
      go_wp2
      go_ret
      rw [hsB.out]
      exact ⟨_, rfl, ⟨_, _, rfl, hcap.out, NewRow.of_own HO.out⟩, HBR.out⟩

set_option maxHeartbeats 1600000 in
theorem rsetNext_any (A : Option Addr) (n c : Nat) (bs : List UInt8) (m : Int) (w : World) (hr : Rd w 1 A n (u8s bs)) (hn : n = bs.length) (hc : n ≤ c) :
    Calls Try.prog 24 #[.slice A n c, .int .i64 m] w fun e w' => ∃ v, e = .returned v ∧ RdB w' v (setNextB bs m) ∧ Below w.heap.size w w' := by
  have H := hid (rread_any A n c bs w hr hn hc)
  have HRB : Hid (RdB w (.slice A n c) bs) := hid ⟨A, c, by rw [hn], by omega, by rw [← hn]; exact hr⟩
  clear hr hn
  go_enter Try.func24, Try.ntmps24
  go_wp2_with fail
  refine H.out.mono ?_
  rintro e w1 ⟨A1, c1, rfl, ho1, hb1⟩
  have HA := hid (afterR ho1 hb1)
  have HAm := hid (afterR (q := ⟨m, (pgD bs).l⟩) ho1 hb1)
  have hv := hid (pgD_valid bs)
  clear ho1 hb1 H
  by_cases hgood : (pg bs).isSome = true ∧ 0 ≤ m ∧ m ≤ 4294967295
  · obtain ⟨hp, h0, h1⟩ := hgood
    have hg : Hid (setNextB bs m = MPage.bytes ⟨m, (pgD bs).l⟩) := hid (by rw [setNextB, hp]; simp [h0, h1])
    rw [hp]
    obtain ⟨k, rfl⟩ : ∃ k : Nat, m = k := ⟨m.toNat, by omega⟩
    have hcall := hid (rbytes_any A1 c1 k (pgD bs).l _ HAm.out.sr (by omega) (by have := hv.out.fits.1; omega))
    have e : Hid (page k (pgD bs).l.length (st (pgD bs).l) = MPage.bytes ⟨k, (pgD bs).l⟩) := hid (raw_bytes k _ hv.out.tr).symm
    rw [e.out] at hcall
    clear hp e
    go_wp2_with fail
    refine hcall.out.mono ?_
    rintro e w3 ⟨v3, rfl, ho3, hb3⟩
    have HB3 := hid (HAm.out.be.trans (hb3.mono HAm.out.be.size))
    obtain ⟨A3, c3, rfl, HO3⟩ := ho3.split
    clear ho3 hb3
    go_wp2
    go_ret
    rw [hg.out]
    exact ⟨_, rfl, HO3.out.rdB, HB3.out⟩
  · have hg : Hid (setNextB bs m = bs) := hid (by
      rw [setNextB, if_neg]
      intro h
      simp only [Bool.and_eq_true, decide_eq_true_eq] at h
      exact hgood ⟨h.1.1, h.1.2, h.2⟩)
    have HR2 := hid (HRB.out.below HA.out.be)
    by_cases hp : (pg bs).isSome = true
    · rw [hp]
      by_cases h0 : 0 ≤ m
      · have h1 : 4294967295 < m := by
          rcases Int.lt_or_le 4294967295 m with h | h
          · exact h
          · exact absurd ⟨hp, h0, h⟩ hgood
        clear hgood hp
        go_wp2
        go_ret
        rw [hg.out]
        exact ⟨_, rfl, HR2.out, HA.out.be⟩
      · clear hgood hp
        go_wp2
        go_ret
        rw [hg.out]
        exact ⟨_, rfl, HR2.out, HA.out.be⟩
    · have hp' : (pg bs).isSome = false := by simpa using hp
      rw [hp']
      clear hgood hp hp'
      go_wp2
      go_ret
      rw [hg.out]
      exact ⟨_, rfl, HR2.out, HA.out.be⟩
end Go.Proofs.Ytpdikmkhkiplbaa
