/- What a page tells behind a Put, and a Put and a Del, in plain Lean. Conditions: the page is one. -/
import Derived.Test.YtpdikmkhkiplbaaAwk
namespace Go.Proofs.Ytpdikmkhkiplbaa
set_option linter.unusedVariables false

def MPage.put (m : MPage) (d : List UInt8) : MPage := ⟨m.next, (widen m.l).set (spot m.l) (some d)⟩
theorem last_some {l : Recs} (h : trim l = l) (hn : l ≠ []) : ∃ a r, l = a ++ [some r] := by
  rcases trim_form l with h0 | ⟨a, r, h0⟩
  · rw [h] at h0; exact absurd h0 hn
  · rw [h] at h0; exact ⟨a, r, h0⟩
theorem put_trim {m : MPage} (h : Valid m) (d : List UInt8) : trim (m.put d).l = (m.put d).l := by
  show trim ((widen m.l).set (spot m.l) (some d)) = (widen m.l).set (spot m.l) (some d)
  unfold widen spot
  cases hh : hole m.l with
  | none => simp only [Option.getD_none]; rw [List.set_append_right _ _ (by omega)]; simp [trim_some]
  | some k =>
    simp only [Option.getD_some]
    have hk := hole_some hh
    obtain ⟨a, r, e⟩ := last_some h.tr (by intro e; rw [e] at hk; simp at hk)
    have hka : k < a.length := by
      rcases Nat.lt_or_ge k a.length with h1 | h1
      · exact h1
      · have h2 := hk.1
        rw [e] at h2
        simp at h2
        have : k = a.length := by omega
        have h3 := hk.2.1
        rw [e, this, List.getElem?_append_right (by omega)] at h3
        simp at h3
    rw [e, List.set_append_left _ _ hka, trim_some]
theorem put_cases {m : MPage} (hm : Valid m) (d : List UInt8) :
    (∃ e, e ≠ 0 ∧ putB m.bytes d = (e, 0, none) ∧ (480 < d.length ∨ 498 < 4 * (widen m.l).length + sum m.l + d.length)) ∨ (putB m.bytes d = (0, spot m.l, some (m.put d)) ∧ Valid (m.put d) ∧ d.length ≤ 480 ∧ 4 * (widen m.l).length + sum m.l + d.length ≤ 498) := by
  have hs := widen_sum m.l
  have hp : putB m.bytes d = putP m d := by rw [putB, hm.pg]
  rw [hp]
  by_cases h1 : 480 < d.length
  · exact .inl ⟨1, by omega, by rw [putP, if_pos h1], .inl h1⟩
  · by_cases h2 : 498 < 4 * (widen m.l).length + sum (widen m.l) + d.length
    · exact .inl ⟨60, by omega, by rw [putP, if_neg h1, if_pos h2], .inr (by omega)⟩
    · have hg := good_put hm (d := d) (by omega) (by omega)
      exact .inr ⟨by rw [putP, if_neg h1, if_neg h2]; rfl, ⟨put_trim hm d, by have h : Fits (trim (m.put d).l) := hg.fits; rw [put_trim hm d] at h; exact h, hm.n1, hm.n2⟩, by omega, by omega⟩
theorem put_at (m : MPage) (d : List UInt8) : (m.put d).l[spot m.l]? = some (some d) := by
  show ((widen m.l).set (spot m.l) (some d))[spot m.l]? = _
  rw [List.getElem?_set_self spot_lt]
theorem put_has (m : MPage) (d : List UInt8) : (m.put d).has (spot m.l : Int) = true := has_of (put_at m d)
theorem del_put {m : MPage} (hm : Valid m) (d : List UInt8) (hv : Valid (m.put d)) : delE (m.put d).bytes (spot m.l) = 0 ∧ delO (m.put d).bytes (spot m.l) = m.bytes := by
  refine ⟨by rw [delE, hv.pg, hv.pgD, put_has]; rfl, ?_⟩
  rw [delO, hv.pg, hv.pgD, put_has]
  simp only [Option.isSome_some, Bool.and_self, if_true, Int.toNat_natCast]
  show MPage.bytes ⟨m.next, ((widen m.l).set (spot m.l) (some d)).set (spot m.l) none⟩ = m.bytes
  rw [List.set_set]
  have e : (widen m.l).set (spot m.l) none = widen m.l := by
    have h := spot_none (l := m.l)
    obtain ⟨h1, h2⟩ := List.getElem?_eq_some_iff.1 h
    conv => lhs; arg 3; rw [← h2]
    exact List.set_getElem_self h1
  rw [e, ← trim_bytes, ← trim_bytes m]
  have : trim (widen m.l) = trim m.l := by
    unfold widen
    split
    · exact trim_none _
    · rfl
  simp only [this]
theorem get_put {m : MPage} (d : List UInt8) (hv : Valid (m.put d)) : getB (m.put d).bytes (spot m.l) = some d := by
  rw [getB, hv.pg, hv.pgD, put_has]
  simp [List.getD_eq_getElem?_getD, put_at]
end Go.Proofs.Ytpdikmkhkiplbaa
