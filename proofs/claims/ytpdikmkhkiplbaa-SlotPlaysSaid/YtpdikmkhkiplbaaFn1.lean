/- What package slot's small functions answer: Check, Next, has, Clip, New. Conditions: none but what a slice is. -/
import Derived.Test.YtpdikmkhkiplbaaRdA
namespace Go.Proofs.Ytpdikmkhkiplbaa
open Go.RowKit
set_option maxRecDepth 100000
set_option linter.unusedVariables false
set_option linter.unusedSimpArgs false

open Classical in
/-- the page that bytes tell, if they are one -/
noncomputable def pg (bs : List UInt8) : Option MPage := if h : ∃ q, Is bs q then some h.choose else none
noncomputable def pgD (bs : List UInt8) : MPage := (pg bs).getD ⟨0, []⟩
section
variable {bs : List UInt8} {q : MPage}
theorem pg_some (h : Is bs q) : pg bs = some q := by
  have hx : ∃ q, Is bs q := ⟨q, h⟩
  unfold pg
  rw [dif_pos hx, hx.choose_spec.uniq h]
theorem pg_none (h : ∀ q, ¬ Is bs q) : pg bs = none := by
  unfold pg
  rw [dif_neg (fun ⟨q, hq⟩ => h q hq)]
theorem pg_is (h : pg bs = some q) : Is bs q := by
  unfold pg at h
  split at h
  · rename_i hx
    injection h with h
    rw [← h]
    exact hx.choose_spec
  · cases h
theorem pg_not (h : pg bs = none) : ∀ q, ¬ Is bs q := fun q hq => by rw [pg_some hq] at h; cases h
theorem pgD_some (h : pg bs = some q) : pgD bs = q := by rw [pgD, h]; rfl
theorem pgD_none (h : pg bs = none) : pgD bs = ⟨0, []⟩ := by rw [pgD, h]; rfl
theorem pgD_valid (bs : List UInt8) : Valid (pgD bs) := by
  cases h : pg bs with
  | none => rw [pgD_none h]; exact ⟨rfl, ⟨by simp [sum], by simp⟩, by simp, by simp⟩
  | some q => rw [pgD_some h]; exact (pg_is h).1
end
theorem RowAt.nil {B : Nat} {w : World} : RowAt B w (.slice none 0 0) [] := ⟨[], World.ownsRow_nil _ _ _ _, fun i x h => by simp at h⟩

theorem read_pg (A : Option Addr) (n c : Nat) (bs : List UInt8) (w : World) (hr : Rd w 1 A n (u8s bs)) (hn : n = bs.length) (hc : n ≤ c) :
    Calls Try.prog 26 #[.slice A n c] w fun e w' => ∃ A' c', e = .returned (.tuple #[.agg #[.int .i64 (pgD bs).next, .slice A' (pgD bs).l.length c'], .bool (pg bs).isSome]) ∧ RowAt w.heap.size w' (.slice A' (pgD bs).l.length c') (pgD bs).l ∧ Below w.heap.size w w' := by
  refine (read_any A n c bs w hr hn hc).mono ?_
  rintro e w' ⟨hb, ⟨q, lv, hq, rfl, hr⟩ | ⟨hq, rfl⟩⟩
  · obtain ⟨A', c', rfl, _⟩ := hr.form
    rw [pgD_some (pg_some hq), pg_some hq]
    exact ⟨A', c', rfl, hr, hb⟩
  · rw [pgD_none (pg_none hq), pg_none hq]
    exact ⟨none, 0, rfl, RowAt.nil, hb⟩

/-- the page is laid into a box of its own -/
theorem page_in {B : Nat} {w1 : World} {q : MPage} {lv : Value} (hr : RowAt B w1 lv q.l) (hB : B ≤ w1.heap.size) : PgAt B (w1.alloc (.cells #[.int .i64 q.next, lv] 55)) w1.heap.size q ∧ Below w1.heap.size w1 (w1.alloc (.cells #[.int .i64 q.next, lv] 55)) := by
  have hbe : Below w1.heap.size w1 (w1.alloc (.cells #[.int .i64 q.next, lv] 55)) := (Below.refl _ _).alloc (Nat.le_refl _) _
  exact ⟨⟨hB, lv, Blk.new w1 55 _, hr.chg (S := fun _ => False) (Chg.of_below hbe) (fun _ h => h.elim) (fun _ _ h => h)⟩, hbe⟩

set_option maxHeartbeats 1600000 in
theorem next_any (A : Option Addr) (n c : Nat) (bs : List UInt8) (w : World) (hr : Rd w 1 A n (u8s bs)) (hn : n = bs.length) (hc : n ≤ c) :
    Calls Try.prog 11 #[.slice A n c] w fun e w' => e = .returned (.int .i64 (pgD bs).next) ∧ Below w.heap.size w w' := by
  have H := hid (read_pg A n c bs w hr hn hc)
  clear hr hn
  go_enter Try.func11, Try.ntmps11
  go_wp2_with fail
  refine H.out.mono ?_
  rintro e w1 ⟨A1, c1, rfl, hr1, hb1⟩
  have hpi := hid (page_in hr1 hb1.size)
  have HB1 := hid hb1
  clear hr1 hb1 H
  go_wp2_with fail
  go_ret
  exact ⟨rfl, HB1.out.trans (hpi.out.2.mono HB1.out.size)⟩

set_option maxHeartbeats 1600000 in
theorem check_any (A : Option Addr) (n c : Nat) (bs : List UInt8) (w : World) (hr : Rd w 1 A n (u8s bs)) (hn : n = bs.length) (hc : n ≤ c) :
    Calls Try.prog 12 #[.slice A n c] w fun e w' => e = .returned (.bool (pg bs).isSome) ∧ Below w.heap.size w w' := by
  have H := hid (read_pg A n c bs w hr hn hc)
  clear hr hn
  go_enter Try.func12, Try.ntmps12
  go_wp2_with fail
  refine H.out.mono ?_
  rintro e w1 ⟨A1, c1, rfl, hr1, hb1⟩
  have hpi := hid (page_in hr1 hb1.size)
  have HB1 := hid hb1
  clear hr1 hb1 H
  go_wp2_with fail
  go_ret
  exact ⟨rfl, HB1.out.trans (hpi.out.2.mono HB1.out.size)⟩

/-- bytes of a call's own making -/
def OutB (base : Nat) (w : World) (v : Value) (bs : List UInt8) : Prop := ∃ A c, v = .slice A bs.length c ∧ bs.length ≤ c ∧ NewRow base w 5 1 A bs.length (u8s bs)
theorem OutB.nil {base : Nat} {w : World} : OutB base w (.slice none 0 0) [] := ⟨none, 0, rfl, by simp, ⟨Rd.none_, fun ad e => by cases e⟩⟩
theorem OutB.below {base : Nat} {w w' : World} {v : Value} {bs : List UInt8} (h : OutB base w v bs) (hb : Below w.heap.size w w') : OutB base w' v bs := by
  obtain ⟨A, c, rfl, hl, hn⟩ := h
  exact ⟨A, c, rfl, hl, hn.below hb⟩
theorem OutB.mono {base base' : Nat} {w : World} {v : Value} {bs : List UInt8} (h : OutB base w v bs) (hb : base' ≤ base) : OutB base' w v bs := by
  obtain ⟨A, c, rfl, hl, hn⟩ := h
  exact ⟨A, c, rfl, hl, hn.mono hb⟩

theorem valid_new : Valid ⟨0, []⟩ := ⟨rfl, ⟨by simp [sum], by simp⟩, by simp, by simp⟩
theorem bytes_new : MPage.bytes ⟨0, []⟩ = zeros504 := by
  show page 0 0 (st (trim [])) = _
  rw [trim_nil, st_nil]
  rfl
set_option maxHeartbeats 1600000 in
theorem new_any (w : World) : Calls Try.prog 8 #[] w fun e w' => ∃ v, e = .returned v ∧ OutB w.heap.size w' v (MPage.bytes ⟨0, []⟩) ∧ Below w.heap.size w w' := by
  have hm := make504
  go_enter Try.func8, Try.ntmps8
  go_wp2
  go_ret
  have hl : (MPage.bytes ⟨0, []⟩).length = 504 := valid_new.length
  refine ⟨.slice (some ⟨w.heap.size, 0, none⟩) 504 504, rfl, ⟨some ⟨w.heap.size, 0, none⟩, 504, by rw [hl], by omega, ?_⟩, (Below.refl _ _).alloc (Nat.le_refl _) _⟩
  rw [hl, bytes_new]
  have hb := Blk.new w 5 (u8s zeros504).toArray
  exact ⟨Rd.of_blk hb (by rw [length_u8s]; rfl), fun ad e => by injection e with e; exact ⟨_, _, e.symm, Nat.le_refl _, hb⟩⟩

/-- has a page a record in a slot? -/
def MPage.has (q : MPage) (i : Int) : Bool := decide (0 ≤ i) && decide (i < q.l.length) && ((q.l.getD i.toNat none).isSome)
theorem info31 : (Try.prog.info? 3).map (fun i => (i.zero, i.size, i.bytes)) = some (some (.int .i64 0), 1, 8) := by kernel_rfl
set_option maxHeartbeats 1600000 in
theorem has_any (B P : Nat) (q : MPage) (i : Int) (w : World) (h : PgAt B w P q) : Calls Try.prog 33 #[.pointer (some ⟨P, 0, none⟩), .int .i64 i] w fun e w' => e = .returned (.bool (q.has i)) ∧ w' = w := by
  obtain ⟨_, lv, hb, hr⟩ := h
  obtain ⟨A, c, rfl, hlc⟩ := hr.form
  have c1 := blk2b hb
  have HR := hid hr
  clear hb hr
  go_enter Try.func33, Try.ntmps33
  by_cases h0 : 0 ≤ i
  · by_cases h1 : i < q.l.length
    · obtain ⟨k, rfl⟩ : ∃ k : Nat, i = k := ⟨i.toNat, by omega⟩
      have hk : k < q.l.length := by omega
      obtain ⟨g, v, rfl, hg, hcell, hfz, he⟩ := HR.out.cell k hk
      have hh : Hid (q.has (k : Int) = (q.l[k]).isSome) := hid (by simp [MPage.has, hk])
      cases hx : q.l[k] with
      | none =>
        rw [hx] at he hh
        have hv : v = .slice none 0 0 := he
        subst hv
        have heq : ∀ W : World, (binOp .neq 23 (.slice none 0 0) (.slice none 0 0)).run Try.prog W = .ok (.bool false) W := fun W => run_neq_slice_nil_any (P := Try.prog) W 23 5 none 0 0 0 0 Try.underlying23
        clear he HR hx
        go_wp2
        go_ret
        rw [hh.out]
        exact ⟨rfl, rfl⟩
      | some r =>
        rw [hx] at he hh
        obtain ⟨g2, c2, rfl, hrc, hn2⟩ := he
        have heq : ∀ W : World, (binOp .neq 23 (.slice (some ⟨g2, 0, none⟩) r.length c2) (.slice none 0 0)).run Try.prog W = .ok (.bool true) W := fun W => run_neq_slice_nil_any (P := Try.prog) W 23 5 (some ⟨g2, 0, none⟩) r.length c2 0 0 Try.underlying23
        clear hn2 HR hx
        go_wp2
        go_ret
        rw [hh.out]
        exact ⟨rfl, rfl⟩
    · have hh : Hid (q.has i = false) := hid (by simp [MPage.has]; omega)
      clear HR
      go_wp2
      go_ret
      rw [hh.out]
      exact ⟨rfl, rfl⟩
  · have hh : Hid (q.has i = false) := hid (by simp [MPage.has]; omega)
    clear HR
    go_wp2
    go_ret
    rw [hh.out]
    exact ⟨rfl, rfl⟩

theorem sl_clip {t e : TypeId} {i : TypeInfo} (ht : Try.prog.underlying t = some (.slice e)) (hi : Try.prog.info? e = some i) (A : Option Addr) (k c : Nat) (hk : k ≤ c) (W : World) :
    (Instr.slice t (.slice A k c) none (some (.int .i64 (k : Int))) (some (.int .i64 (k : Int)))).run Try.prog W = .ok (.slice A k k) W := sl_full ht hi A k c hk W
set_option maxHeartbeats 1600000 in
theorem clip_any (A : Option Addr) (n c : Nat) (w : World) (hc : n ≤ c) : Calls Try.prog 34 #[.slice A n c] w fun e w' => e = .returned (.slice A n n) ∧ w' = w := by
  obtain ⟨i0, hi, hz0, hz1, hz2⟩ := info_parts info5
  have hsl := sl_clip Try.underlying23 hi A n c hc
  go_enter Try.func34, Try.ntmps34
  go_wp2
  go_ret
  exact ⟨rfl, rfl⟩
set_option maxHeartbeats 1600000 in
theorem clipi_any (A : Option Addr) (n c : Nat) (w : World) (hc : n ≤ c) : Calls Try.prog 32 #[.slice A n c] w fun e w' => e = .returned (.slice A n n) ∧ w' = w := by
  obtain ⟨i0, hi, hz0, hz1, hz2⟩ := info_parts info31
  have hsl := sl_clip Try.underlying31 hi A n c hc
  go_enter Try.func32, Try.ntmps32
  go_wp2
  go_ret
  exact ⟨rfl, rfl⟩
end Go.Proofs.Ytpdikmkhkiplbaa
