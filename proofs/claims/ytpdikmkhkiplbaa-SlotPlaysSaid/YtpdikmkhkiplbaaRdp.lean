/- What a page's bytes tell of its records, in plain Lean. Conditions: the records fit. -/
import Derived.Test.YtpdikmkhkiplbaaPag
namespace Go.Proofs.Ytpdikmkhkiplbaa
set_option linter.unusedVariables false
set_option linter.unusedSimpArgs false

def num2 (bs : List UInt8) (j : Nat) : Nat := 256 * (bs.getD j 0).toNat + (bs.getD (j + 1) 0).toNat
def num4 (bs : List UInt8) (j : Nat) : Nat := 16777216 * (bs.getD j 0).toNat + 65536 * (bs.getD (j + 1) 0).toNat + 256 * (bs.getD (j + 2) 0).toNat + (bs.getD (j + 3) 0).toNat

/-- a page as its bytes tell it -/
structure Valid (q : MPage) : Prop where
  tr : trim q.l = q.l
  fits : Fits q.l
  n1 : 0 ≤ q.next
  n2 : q.next < 4294967296

theorem getD_off (a b : List UInt8) (j : Nat) : (a ++ b).getD (a.length + j) 0 = b.getD j 0 := by
  rw [List.getD_eq_getElem?_getD, List.getD_eq_getElem?_getD, List.getElem?_append_right (by omega), Nat.add_sub_cancel_left]
theorem num2_two (a b : List UInt8) (n : Nat) (hn : n < 65536) : num2 (a ++ (two n ++ b)) a.length = n := by
  have h0 := getD_off a (two n ++ b) 0
  have h1 := getD_off a (two n ++ b) 1
  rw [Nat.add_zero] at h0
  unfold num2
  rw [h0, h1]
  simp [two, byte]
  omega
theorem num4_four (a b : List UInt8) (n : Nat) (hn : n < 4294967296) : num4 (a ++ (four n ++ b)) a.length = n := by
  have h0 := getD_off a (four n ++ b) 0
  have h1 := getD_off a (four n ++ b) 1
  have h2 := getD_off a (four n ++ b) 2
  have h3 := getD_off a (four n ++ b) 3
  rw [Nat.add_zero] at h0
  unfold num4
  rw [h0, h1, h2, h3]
  simp [four, byte]
  omega

theorem page_len (m n : Nat) (l : Recs) (hn : n < 65536) : num2 (page m n (st l)) 0 = n := by
  have := num2_two [] (four m ++ ((st l).1 ++ (List.replicate (498 - (st l).1.length - (st l).2.length) 0 ++ (st l).2))) n hn
  simpa only [page, List.append_assoc, List.nil_append, List.length_nil] using this
theorem page_next (m n : Nat) (l : Recs) (hm : m < 4294967296) : num4 (page m n (st l)) 2 = m := by
  have := num4_four (two n) ((st l).1 ++ (List.replicate (498 - (st l).1.length - (st l).2.length) 0 ++ (st l).2)) m hm
  have e : (two n).length = 2 := rfl
  rw [e] at this
  simpa only [page, List.append_assoc] using this

/-- the page around a slot -/
theorem page_slot (m n : Nat) (l : Recs) (k : Nat) (hk : k < l.length) : ∃ T, page m n (st l) = ((two n ++ four m) ++ (st (l.take k)).1) ++ (slotB (504 - sum (l.take (k + 1))) l[k] ++ T) := by
  obtain ⟨T, U, h1, h2⟩ := st_append (l.take (k + 1)) (l.drop (k + 1))
  rw [List.take_append_drop] at h1 h2
  have e : (st (l.take (k + 1))).1 = (st (l.take k)).1 ++ slotB (504 - sum (l.take (k + 1))) l[k] := by
    have hh := length_st (l.take k)
    have hs := sum_snoc (l.take k) l[k]
    rw [List.take_succ_eq_append_getElem hk, st_snoc, hs]
    simp only [step, List.length_append, hh.2]
    congr 3
    omega
  refine ⟨T ++ (List.replicate (498 - (st l).1.length - (st l).2.length) 0 ++ (st l).2), ?_⟩
  rw [e] at h1
  unfold page
  conv => lhs; arg 2; arg 1; rw [h1]
  simp only [List.append_assoc]
theorem slotB_num {a T : List UInt8} (e : Nat) (he : e < 65536) (x : Option (List UInt8)) :
    (x = none → num2 (a ++ (slotB e x ++ T)) (a.length + 2) = 0) ∧ (∀ r, x = some r → r.length < 65535 → num2 (a ++ (slotB e x ++ T)) a.length = e ∧ num2 (a ++ (slotB e x ++ T)) (a.length + 2) = r.length + 1) := by
  refine ⟨?_, ?_⟩
  · rintro rfl
    have := num2_two (a ++ [0, 0]) T 0 (by omega)
    simpa [slotB, two, byte] using this
  · rintro r rfl hr
    refine ⟨?_, ?_⟩
    · have := num2_two a (two (r.length + 1) ++ T) e he
      simpa only [slotB, List.append_assoc] using this
    · have := num2_two (a ++ two e) T (r.length + 1) (by omega)
      have e2 : (a ++ two e).length = a.length + 2 := by simp [two]
      rw [e2] at this
      simpa only [slotB, List.append_assoc] using this

section
variable {q : MPage}
theorem Valid.bytes (h : Valid q) : q.bytes = page q.next.toNat q.l.length (st q.l) := by simp only [MPage.bytes, h.tr]
theorem Valid.len (h : Valid q) : q.l.length ≤ 124 := by have := h.fits.1; omega
theorem Valid.length (h : Valid q) : q.bytes.length = 504 := by rw [h.bytes]; exact length_page _ _ _ h.fits.1
theorem Valid.num (h : Valid q) : num2 q.bytes 0 = q.l.length := by rw [h.bytes]; exact page_len _ _ _ (by have := h.len; omega)
theorem Valid.next (h : Valid q) : (num4 q.bytes 2 : Int) = q.next := by
  rw [h.bytes, page_next _ _ _ (by have := h.n1; have := h.n2; omega)]
  have := h.n1; omega
theorem Valid.slot_none (h : Valid q) (k : Nat) (hk : k < q.l.length) (hx : q.l[k] = none) : num2 q.bytes (8 + 4 * k) = 0 := by
  obtain ⟨T, hT⟩ := page_slot q.next.toNat q.l.length q.l k hk
  have hl := (length_st (q.l.take k)).1
  have e : ((two q.l.length ++ four q.next.toNat) ++ (st (q.l.take k)).1).length + 2 = 8 + 4 * k := by
    simp only [List.length_append, two, four, List.length_cons, List.length_nil, hl, List.length_take]
    omega
  have := (slotB_num (a := (two q.l.length ++ four q.next.toNat) ++ (st (q.l.take k)).1) (T := T) (504 - sum (q.l.take (k + 1))) (by omega) q.l[k]).1 hx
  rw [h.bytes, hT, ← e]
  exact this
theorem Valid.slot_some (h : Valid q) (k : Nat) (hk : k < q.l.length) (r : List UInt8) (hx : q.l[k] = some r) : num2 q.bytes (6 + 4 * k) = 504 - sum (q.l.take (k + 1)) ∧ num2 q.bytes (8 + 4 * k) = r.length + 1 := by
  obtain ⟨T, hT⟩ := page_slot q.next.toNat q.l.length q.l k hk
  have hl := (length_st (q.l.take k)).1
  have e : ((two q.l.length ++ four q.next.toNat) ++ (st (q.l.take k)).1).length = 6 + 4 * k := by
    simp only [List.length_append, two, four, List.length_cons, List.length_nil, hl, List.length_take]
    omega
  have e2 : ((two q.l.length ++ four q.next.toNat) ++ (st (q.l.take k)).1).length + 2 = 8 + 4 * k := by omega
  have hr := h.fits.2 r (by rw [← hx]; exact List.getElem_mem hk)
  have := (slotB_num (a := (two q.l.length ++ four q.next.toNat) ++ (st (q.l.take k)).1) (T := T) (504 - sum (q.l.take (k + 1))) (by omega) q.l[k]).2 r hx (by omega)
  rw [h.bytes, hT, ← e2, ← e]
  exact this
theorem Valid.rec_ (h : Valid q) (k : Nat) (hk : k < q.l.length) (r : List UInt8) (hx : q.l[k] = some r) : (q.bytes.drop (504 - sum (q.l.take (k + 1)))).take r.length = r := by
  obtain ⟨T, U, h1, h2⟩ := st_append (q.l.take (k + 1)) (q.l.drop (k + 1))
  rw [List.take_append_drop] at h1 h2
  have hl := length_st q.l
  have hl2 := (length_st (q.l.take (k + 1))).2
  have hs := sum_take q.l (k + 1)
  have hf := h.fits.1
  have e : (st (q.l.take (k + 1))).2 = r ++ (st (q.l.take k)).2 := by
    rw [List.take_succ_eq_append_getElem hk, st_snoc, hx]
    rfl
  have e1 : q.bytes = (((two q.l.length ++ four q.next.toNat) ++ ((st q.l).1 ++ List.replicate (498 - (st q.l).1.length - (st q.l).2.length) 0)) ++ U) ++ (r ++ (st (q.l.take k)).2) := by
    rw [h.bytes]
    rw [e] at h2
    unfold page
    conv => lhs; arg 2; arg 2; arg 2; rw [h2]
    simp only [List.append_assoc]
  have e2 : (((two q.l.length ++ four q.next.toNat) ++ ((st q.l).1 ++ List.replicate (498 - (st q.l).1.length - (st q.l).2.length) 0)) ++ U).length = 504 - sum (q.l.take (k + 1)) := by
    have hU : U.length + sum (q.l.take (k + 1)) = sum q.l := by
      have := congrArg List.length h2
      rw [List.length_append, hl.2, hl2] at this
      omega
    simp only [List.length_append, two, four, List.length_cons, List.length_nil, List.length_replicate, hl.1, hl.2]
    omega
  rw [e1, ← e2, List.drop_left, List.take_left]
end

/-- a page's bytes tell it whole -/
theorem take_same {q q' : MPage} (h : Valid q) (h' : Valid q') (hb : q.bytes = q'.bytes) (k : Nat) (hk : k ≤ q.l.length) : q.l.take k = q'.l.take k := by
  have hn : q.l.length = q'.l.length := by rw [← h.num, ← h'.num, hb]
  induction k with
  | zero => rfl
  | succ k ih =>
    have ih := ih (by omega)
    have h1 : k < q.l.length := by omega
    have h2 : k < q'.l.length := by omega
    rw [List.take_succ_eq_append_getElem h1, List.take_succ_eq_append_getElem h2, ih]
    congr 1
    cases hx : q.l[k] with
    | none =>
      cases hy : q'.l[k] with
      | none => rfl
      | some r =>
        have a := h.slot_none k h1 hx
        have b := (h'.slot_some k h2 r hy).2
        rw [hb] at a
        omega
    | some r =>
      cases hy : q'.l[k] with
      | none =>
        have a := h'.slot_none k h2 hy
        have b := (h.slot_some k h1 r hx).2
        rw [hb] at b
        omega
      | some r' =>
        have a := h.slot_some k h1 r hx
        have b := h'.slot_some k h2 r' hy
        rw [hb] at a
        have c := h.rec_ k h1 r hx
        have d := h'.rec_ k h2 r' hy
        have hl : r.length = r'.length := by omega
        have hs : 504 - sum (q.l.take (k + 1)) = 504 - sum (q'.l.take (k + 1)) := by rw [← a.1, ← b.1]
        rw [hb, hs, hl, d] at c
        rw [c]
theorem bytes_inj {q q' : MPage} (h : Valid q) (h' : Valid q') (hb : q.bytes = q'.bytes) : q = q' := by
  have hn : q.l.length = q'.l.length := by rw [← h.num, ← h'.num, hb]
  have hl := take_same h h' hb q.l.length (Nat.le_refl _)
  rw [List.take_length, hn, List.take_length] at hl
  have hx : q.next = q'.next := by rw [← h.next, ← h'.next, hb]
  cases q; cases q'
  simp only at hl hx
  subst hl; subst hx
  rfl
end Go.Proofs.Ytpdikmkhkiplbaa
