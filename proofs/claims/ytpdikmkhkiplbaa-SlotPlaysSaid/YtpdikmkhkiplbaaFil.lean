/- A page that is filled by Puts alone has no holes, and its next page is none; and what is told of it. In plain Lean. -/
import Derived.Test.YtpdikmkhkiplbaaPut
namespace Go.Proofs.Ytpdikmkhkiplbaa
set_option linter.unusedVariables false

/-- no slot is empty -/
def Full (m : MPage) : Prop := hole m.l = none
theorem full_put {m : MPage} (h : Full m) (d : List UInt8) : (m.put d).l = m.l ++ [some d] ∧ spot m.l = m.l.length ∧ widen m.l = m.l ++ [none] := by
  have h1 : spot m.l = m.l.length := by unfold spot; rw [show hole m.l = none from h]; rfl
  have h2 : widen m.l = m.l ++ [none] := by unfold widen; rw [show hole m.l = none from h]
  refine ⟨?_, h1, h2⟩
  show (widen m.l).set (spot m.l) (some d) = _
  rw [h1, h2, List.set_append_right _ _ (by omega)]
  simp
theorem hole_append (l : Recs) (d : List UInt8) (h : hole l = none) : hole (l ++ [some d]) = none := by
  refine hole_not fun j hj => ?_
  by_cases hl : j < l.length
  · obtain ⟨r, hr⟩ := hole_none h j hl
    exact ⟨r, by rw [List.getElem?_append_left hl]; exact hr⟩
  · have : j = l.length := by simp at hj; omega
    subst this
    exact ⟨d, by simp⟩
theorem full_put_ {m : MPage} (h : Full m) (d : List UInt8) : Full (m.put d) := by
  show hole (m.put d).l = none
  rw [(full_put h d).1]
  exact hole_append _ _ h
theorem full_new : Full ⟨0, []⟩ := rfl
theorem full_at {m : MPage} (h : Full m) {k : Nat} (hk : k < m.l.length) : ∃ r, m.l[k]? = some (some r) := hole_none h k hk
theorem idx_full {l : Recs} (h : hole l = none) (k : Nat) (hk : k ≤ l.length) : idx l k = List.range k := by
  induction k with
  | zero => rfl
  | succ k ih =>
    obtain ⟨r, hr⟩ := hole_none h k (by omega)
    have : (l.getD k none).isSome = true := by rw [List.getD_eq_getElem?_getD, hr]; rfl
    rw [idx, ih (by omega), this, List.range_succ]
    rfl
theorem slots_full {m : MPage} (hv : Valid m) (h : Full m) : slotsB m.bytes = List.range m.l.length := by
  rw [slotsB, hv.pgD]
  exact idx_full h _ (Nat.le_refl _)
/-- any page's slots are those that have records -/
theorem idx_has (l : Recs) (k : Nat) (hk : k ≤ l.length) : ∀ j ∈ idx l k, ∃ r, l[j]? = some (some r) := by
  induction k with
  | zero => intro j hj; simp [idx] at hj
  | succ k ih =>
    intro j hj
    rw [idx] at hj
    rcases List.mem_append.1 hj with h | h
    · exact ih (by omega) j h
    · split at h
      · rename_i hs
        simp at h
        subst h
        have hjl : j < l.length := by omega
        rw [List.getD_eq_getElem?_getD, List.getElem?_eq_getElem hjl] at hs
        simp only [Option.getD_some] at hs
        obtain ⟨r, hr⟩ := Option.isSome_iff_exists.1 hs
        exact ⟨r, by rw [List.getElem?_eq_getElem hjl, hr]⟩
      · simp at h
theorem slots_next {m : MPage} (hv : Valid m) (n : Int) (h0 : 0 ≤ n) (h1 : n < 4294967296) : Valid ⟨n, m.l⟩ ∧ slotsB (MPage.bytes ⟨n, m.l⟩) = slotsB m.bytes ∧ freeB (MPage.bytes ⟨n, m.l⟩) = freeB m.bytes ∧ ∀ i, getB (MPage.bytes ⟨n, m.l⟩) i = getB m.bytes i := by
  have hv' : Valid ⟨n, m.l⟩ := ⟨hv.tr, hv.fits, h0, h1⟩
  refine ⟨hv', by rw [slotsB, slotsB, hv'.pgD, hv.pgD], by rw [freeB, freeB, hv'.pg, hv.pg], fun i => ?_⟩
  rw [getB, getB, hv'.pg, hv'.pgD, hv.pg, hv.pgD]
  rfl
theorem setNext_valid {m : MPage} (hv : Valid m) (n : Int) : setNextB m.bytes n = if 0 ≤ n ∧ n ≤ 4294967295 then MPage.bytes ⟨n, m.l⟩ else m.bytes := by
  rw [setNextB, hv.pg, hv.pgD]
  by_cases h : 0 ≤ n ∧ n ≤ 4294967295
  · rw [if_pos h]; simp [h.1, h.2]
  · rw [if_neg h, if_neg]
    intro h'
    simp only [Option.isSome_some, Bool.true_and, Bool.and_eq_true, decide_eq_true_eq] at h'
    exact h h'
/-- what Del leaves has the same next page -/
theorem del_next {m : MPage} (hv : Valid m) {k : Nat} {r : List UInt8} (hk : m.l[k]? = some (some r)) : delE m.bytes k = 0 ∧ (pgD (delO m.bytes k)).next = m.next := by
  have hh := has_of (q := m) hk
  refine ⟨by rw [delE, hv.pg, hv.pgD, hh]; rfl, ?_⟩
  rw [delO, hv.pg, hv.pgD, hh]
  simp only [Option.isSome_some, Bool.and_self, if_true, Int.toNat_natCast]
  rw [pgD, (good_set_none hv k).pg]
  rfl
end Go.Proofs.Ytpdikmkhkiplbaa
