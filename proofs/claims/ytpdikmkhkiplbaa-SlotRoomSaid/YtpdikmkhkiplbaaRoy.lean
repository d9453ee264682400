/- The walk of the laws' roomy, for a page without holes. Conditions: the page is one. -/
import Derived.Test.YtpdikmkhkiplbaaFil
namespace Go.Proofs.Ytpdikmkhkiplbaa
open Go.RowKit
set_option maxRecDepth 100000
set_option linter.unusedVariables false
set_option linter.unusedSimpArgs false

theorem length_ints (xs : List Nat) : (ints xs).length = xs.length := by simp [ints]
theorem slots_f {B : Nat} {w : World} {v : Value} {m : MPage} (h : OutB B w v m.bytes) (hv : Valid m) (hf : Full m) :
    Calls Try.prog 14 #[v] w fun e w' => ∃ A c, e = .returned (.slice A m.l.length c) ∧ NewRow w.heap.size w' 3 1 A m.l.length (ints (List.range m.l.length)) ∧ Below w.heap.size w w' := by
  refine (slots_v h).mono ?_
  rw [slots_full hv hf]
  rintro e w' ⟨v', rfl, ⟨A, c, rfl, hl, hn⟩, hb⟩
  rw [List.length_range] at hn
  exact ⟨A, c, by rw [List.length_range], hn, hb⟩
/-- a number of the list of slots -/
theorem range_cell {base : Nat} {w : World} {A : Option Addr} {n k : Nat} (h : NewRow base w 3 1 A n (ints (List.range n))) (hk : k < n) : ∃ b, A = some ⟨b, 0, none⟩ ∧ b < w.heap.size ∧ base ≤ b ∧ w.cell? ⟨b, k, none⟩ = some (.int .i64 (k : Int)) := by
  obtain ⟨b, o, rfl, hb, hcs⟩ := h.rd.lit (by omega)
  obtain ⟨g, cs, e, hg, _⟩ := h.at_ _ rfl
  injection e with e1 e2 _
  subst e1
  subst e2
  refine ⟨b, rfl, hb, hg, ?_⟩
  have := hcs k (.int .i64 (k : Int)) (by simp [ints, hk])
  rwa [Nat.zero_add] at this
theorem get_full {m : MPage} (hv : Valid m) {k : Nat} {r : List UInt8} (hr : m.l[k]? = some (some r)) : getB m.bytes (k : Int) = some r := by
  rw [getB, hv.pg, hv.pgD, has_of hr]
  simp [List.getD_eq_getElem?_getD, hr]

set_option maxHeartbeats 3200000 in
theorem roomy_any (B : Nat) (A : Option Addr) (c : Nat) (m : MPage) (w : World) (h : OutB B w (.slice A 504 c) m.bytes) (hB : B ≤ w.heap.size) (hv : Valid m) (hf : Full m) :
    Calls Try.prog 18 #[.slice A 504 c] w fun e w' => e = .returned (.bool (decide (4 * m.l.length + sum m.l ≤ 494))) ∧ Below w.heap.size w w' := by
  have H := hid h
  have hsl := hid (slots_f h hv hf)
  have hlen : m.l.length ≤ 124 := hv.len
  have hsum : sum m.l ≤ 498 := by have := hv.fits.1; omega
  clear h
  go_enter Try.func18, Try.ntmps18
  go_wp2_with fail
  refine hsl.out.mono ?_
  rintro e w1 ⟨A1, c1, rfl, hn1, hb1⟩
  have HN1 := hid hn1
  have HB1 := hid hb1
  clear hn1 hb1
  go_wp2_with fail
  go_loopw [3, 5] (fun v i wr => ∃ k : Nat, k ≤ m.l.length ∧ i = .int .i64 k ∧ v = .int .i64 (6 + 4 * (k : Int) + (sum (m.l.take k) : Int)) ∧ Below w.heap.size w wr ∧ NewRow w.heap.size wr 3 1 A1 m.l.length (ints (List.range m.l.length))) (fun _ i _ => m.l.length - (intOf i).toNat)
  case atStart => exact ⟨0, by omega, rfl, by simp [sum], HB1.out, HN1.out⟩
  case round => as_aux_lemma =>
    obtain ⟨k, hk, rfl, rfl, hb, hn⟩ := hrel
    have HB := hid hb
    have HN := hid hn
    have hst := sum_take m.l k
    by_cases hlt : k < m.l.length
    · obtain ⟨b, rfl, hbl, _, hcell⟩ := range_cell hn hlt
      obtain ⟨r, hr⟩ := full_at hf hlt
      have hget := hid (get_v (H.out.below hb) (k : Int))
      rw [get_full hv hr] at hget
      have hsk : Hid (sum (m.l.take (k + 1)) = sum (m.l.take k) + r.length) := hid (by
        have h1 := sum_le m.l k hlt
        have h2 : m.l[k] = some r := by rw [List.getElem?_eq_getElem hlt] at hr; injection hr
        rw [h2] at h1
        exact h1)
      have hr480 : r.length ≤ 480 := hv.fits.2 r (List.mem_of_getElem? hr)
      have hlt' : (k : Int) < (m.l.length : Int) := by omega
      clear hb hn hr
      simp only [Option.getD_some, Option.isSome_some] at hget
      go_wp2_with fail
      refine hget.out.mono ?_
      rintro e w2 ⟨v2, rfl, ho2, hb2⟩
      obtain ⟨A2, c2, rfl, _⟩ := ho2.split
      have HB2 := hid (HB.out.trans (hb2.mono HB.out.size))
      have HN2 := hid (HN.out.below hb2)
      clear ho2 hb2 hcell
      go_wp2
      go_roundw
      case rel => exact ⟨k + 1, by omega, by go_num, by rw [hsk.out]; congr 1; omega, HB2.out, HN2.out⟩
      case measure => simp [intOf]; omega
    · have hkl : k = m.l.length := by omega
      subst hkl
      rw [List.take_length] at *
      have hlt' : ¬ ((m.l.length : Int) < (m.l.length : Int)) := by omega
      clear hb hn
      go_wp2
      go_ret
      exact ⟨by congr 2; simp; omega, HB.out⟩
end Go.Proofs.Ytpdikmkhkiplbaa
