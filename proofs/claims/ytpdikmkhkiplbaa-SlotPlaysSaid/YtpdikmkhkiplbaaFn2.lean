/- What package slot's Free, Get, Slots, SetNext answer, and the search for an empty slot. Conditions: none but what a slice is. -/
import Derived.Test.YtpdikmkhkiplbaaFn1
namespace Go.Proofs.Ytpdikmkhkiplbaa
open Go.RowKit
set_option maxRecDepth 100000
set_option linter.unusedVariables false
set_option linter.unusedSimpArgs false

/-- the least empty slot -/
def hole : Recs → Option Nat
  | [] => none
  | none :: _ => some 0
  | some _ :: l => (hole l).map (· + 1)
theorem hole_some {l : Recs} {k : Nat} (h : hole l = some k) : k < l.length ∧ l[k]? = some none ∧ ∀ j, j < k → ∃ r, l[j]? = some (some r) := by
  induction l generalizing k with
  | nil => cases h
  | cons x l ih =>
    cases x with
    | none =>
      injection h with h
      subst h
      exact ⟨by simp, rfl, fun j hj => absurd hj (by omega)⟩
    | some r =>
      simp only [hole, Option.map_eq_some_iff] at h
      obtain ⟨k', h, rfl⟩ := h
      obtain ⟨h1, h2, h3⟩ := ih h
      refine ⟨by simp; omega, by simpa using h2, fun j hj => ?_⟩
      cases j with
      | zero => exact ⟨r, rfl⟩
      | succ j => simpa using h3 j (by omega)
theorem hole_none {l : Recs} (h : hole l = none) : ∀ j, j < l.length → ∃ r, l[j]? = some (some r) := by
  induction l with
  | nil => intro j hj; simp at hj
  | cons x l ih =>
    cases x with
    | none => cases h
    | some r =>
      simp only [hole, Option.map_eq_none_iff] at h
      intro j hj
      cases j with
      | zero => exact ⟨r, rfl⟩
      | succ j => simpa using ih h j (by simpa using hj)
theorem hole_is {l : Recs} {k : Nat} (h1 : l[k]? = some none) (h2 : ∀ j, j < k → ∃ r, l[j]? = some (some r)) : hole l = some k := by
  induction l generalizing k with
  | nil => simp at h1
  | cons x l ih =>
    cases k with
    | zero => simp at h1; subst h1; rfl
    | succ k =>
      obtain ⟨r, hr⟩ := h2 0 (by omega)
      simp at hr
      subst hr
      simp only [hole]
      rw [ih (by simpa using h1) (fun j hj => by simpa using h2 (j + 1) (by omega))]
      rfl
theorem hole_not {l : Recs} (h : ∀ j, j < l.length → ∃ r, l[j]? = some (some r)) : hole l = none := by
  cases hh : hole l with
  | none => rfl
  | some k =>
    obtain ⟨h1, h2, _⟩ := hole_some hh
    obtain ⟨r, hr⟩ := h k h1
    rw [h2] at hr
    cases hr
def holeI (l : Recs) : Int := match hole l with | none => -1 | some k => k

set_option maxHeartbeats 1600000 in
theorem put1_any (A : Option Addr) (n c : Nat) (w : World) : Calls Try.prog 28 #[.slice A n c] w fun e w' => e = .returned (.bool A.isNone) ∧ w' = w := by
  have heq : ∀ W : World, (binOp .eql 23 (.slice A n c) (.slice none 0 0)).run Try.prog W = .ok (.bool A.isNone) W := fun W => Lib.run_eql_slice_nil (P := Try.prog) W 23 5 A n c 0 0 Try.underlying23
  go_enter Try.func28, Try.ntmps28
  go_wp2
  go_ret
  exact ⟨rfl, rfl⟩

theorem RowAt.cell_ {B : Nat} {w : World} {A : Option Addr} {n c : Nat} {l : Recs} {k : Nat} {x : Option (List UInt8)} (h : RowAt B w (.slice A n c) l) (hx : l[k]? = some x) :
    ∃ g A2 c2, A = some ⟨g, 0, none⟩ ∧ B ≤ g ∧ w.cell? ⟨g, k, none⟩ = some (.slice A2 (x.getD []).length c2) ∧ w.frozen? ⟨g, k, none⟩ = false ∧ A2.isNone = x.isNone ∧ Hid (ElemAt B w (.slice A2 (x.getD []).length c2) x) := by
  obtain ⟨hk, rfl⟩ := List.getElem?_eq_some_iff.1 hx
  obtain ⟨g, v, rfl, hg, hcell, hfz, he⟩ := h.cell k hk
  obtain ⟨A2, c2, rfl, hAN, _⟩ := he.form
  exact ⟨g, A2, c2, rfl, hg, hcell, hfz, hAN, hid he⟩

set_option maxHeartbeats 1600000 in
theorem index_any (B : Nat) (lv : Value) (l : Recs) (w : World) (hr : RowAt B w lv l) (hl : l.length ≤ 1000) : Calls Try.prog 27 #[lv, .func (.func 28) #[] #[]] w fun e w' => e = .returned (.int .i64 (holeI l)) ∧ w' = w := by
  obtain ⟨A, c, rfl, hlc⟩ := hr.form
  have HR := hid hr
  clear hr
  go_enter Try.func27, Try.ntmps27
  go_wp2_with fail
  go_loopw [5, 8] (fun v i wr => wr = w ∧ ∃ k : Nat, k ≤ l.length ∧ i = .int .i64 k ∧ Hid (∀ j, j < k → ∃ r, l[j]? = some (some r))) (fun _ i _ => l.length - (intOf i).toNat)
  case atStart => exact ⟨rfl, 0, by omega, rfl, hid (fun j hj => absurd hj (by omega))⟩
  case round =>
    obtain ⟨rfl, k, hk, rfl, hj⟩ := hrel
    by_cases hlt : k < l.length
    · obtain ⟨x, hx'⟩ : ∃ x, l[k]? = some x := ⟨_, List.getElem?_eq_getElem hlt⟩
      obtain ⟨g, A2, c2, rfl, hg, hcell, hfz, hAN, _⟩ := HR.out.cell_ hx'
      have hlt' : (k : Int) < (l.length : Int) := by omega
      have hx := hid hx'
      have hcall := put1_any A2 ((x.getD []).length) c2 wr
      rw [hAN] at hcall
      have hcall := hid hcall
      clear hAN hx'
      cases x with
      | none =>
        go_wp2_with fail
        refine hcall.out.mono ?_
        rintro e w' ⟨rfl, rfl⟩
        go_wp2
        go_ret
        exact ⟨by rw [holeI, hole_is hx.out hj.out]; rfl, rfl⟩
      | some r =>
        go_wp2_with fail
        refine hcall.out.mono ?_
        rintro e w' ⟨rfl, rfl⟩
        go_wp2
        go_roundw
        case rel => exact ⟨by first | rfl | trivial, k + 1, by omega, by go_num, hid (fun j hjk => by
          rcases Nat.lt_or_ge j k with h | h
          · exact hj.out j h
          · have : j = k := by omega
            subst this
            exact ⟨r, hx.out⟩)⟩
        case measure => simp [intOf]; omega
    · have hkl : k = l.length := by omega
      have hh := hid (hole_not (l := l) (fun j hjl => hj.out j (by omega)))
      go_wp2
      go_ret
      exact ⟨by rw [holeI, hh.out]; rfl, rfl⟩

/-- how many bytes a record in a new slot may have -/
noncomputable def freeB (bs : List UInt8) : Int := match pg bs with | none => 0 | some q => min 480 (max 0 (494 - 4 * (q.l.length : Int) - (sum q.l : Int)))
set_option maxHeartbeats 1600000 in
theorem free_any (A : Option Addr) (n c : Nat) (bs : List UInt8) (w : World) (hr : Rd w 1 A n (u8s bs)) (hn : n = bs.length) (hc : n ≤ c) :
    Calls Try.prog 13 #[.slice A n c] w fun e w' => e = .returned (.int .i64 (freeB bs)) ∧ Below w.heap.size w w' := by
  have H := hid (read_pg A n c bs w hr hn hc)
  clear hr hn
  go_enter Try.func13, Try.ntmps13
  go_wp2_with fail
  refine H.out.mono ?_
  rintro e w1 ⟨A1, c1, rfl, hr1, hb1⟩
  have hpi := hid (page_in hr1 hb1.size)
  have HB1 := hid hb1
  have hv := pgD_valid bs
  clear hr1 hb1 H
  cases hp : pg bs with
  | none =>
    go_wp2_with fail
    go_ret
    exact ⟨by rw [freeB, hp]; rfl, HB1.out.trans (hpi.out.2.mono HB1.out.size)⟩
  | some q =>
    have hq := pgD_some hp
    rw [hq] at hpi hv ⊢
    have hl1 := hv.len
    have hl2 := hv.fits.1
    have hroom' := room_any w.heap.size w1.heap.size q _ hpi.out.1 (by omega) (by omega)
    have hfr' : freeB bs = min 480 (max 0 (494 - 4 * (q.l.length : Int) - (sum q.l : Int))) := by rw [freeB, hp]
    obtain ⟨R, hR⟩ : ∃ R : Nat, (498 - 4 * (q.l.length : Int) - (sum q.l : Int)) = R := ⟨498 - 4 * q.l.length - sum q.l, by omega⟩
    rw [hR] at hroom'
    rw [show 494 - 4 * (q.l.length : Int) - (sum q.l : Int) = (R : Int) - 4 by omega] at hfr'
    have hR5 : R ≤ 498 := by omega
    have hroom := hid hroom'
    have hfr := hid hfr'
    clear hv hp hq hroom' hfr' hR hl1 hl2
    go_wp2_with fail
    refine hroom.out.mono ?_
    rintro e w2 ⟨rfl, rfl⟩
    go_wp2
    all_goals
      go_ret
      rw [hfr.out]
      refine ⟨?_, HB1.out.trans (hpi.out.2.mono HB1.out.size)⟩
      simp only [Array.getD]
      simp
      try omega
end Go.Proofs.Ytpdikmkhkiplbaa
