/- The walks of both Kind. No conditions. -/
import Derived.Test.YtkpopjpmjcgbfaaDec
namespace Go.Proofs.Ytkpopjpmjcgbfaa
open Go.RowKit
set_option maxRecDepth 100000
set_option linter.unusedVariables false
set_option linter.unusedSimpArgs false

/-- a kind's name -/
def kindS (n : Int) : ByteArray :=
  if n = 1 then ⟨#[98, 101, 103, 105, 110]⟩ else if n = 2 then ⟨#[117, 112, 100, 97, 116, 101]⟩ else if n = 3 then ⟨#[99, 108, 114]⟩ else if n = 4 then ⟨#[99, 111, 109, 109, 105, 116]⟩
  else if n = 5 then ⟨#[97, 98, 111, 114, 116]⟩ else if n = 6 then ⟨#[101, 110, 100]⟩ else if n = 7 then ⟨#[99, 104, 101, 99, 107]⟩ else ⟨#[]⟩

theorem kindS_out (n : Int) (h : n < 0 ∨ 8 ≤ n) : kindS n = ⟨#[]⟩ := by
  unfold kindS
  rw [if_neg (by omega), if_neg (by omega), if_neg (by omega), if_neg (by omega), if_neg (by omega), if_neg (by omega), if_neg (by omega)]

set_option maxHeartbeats 1600000 in
theorem kind_any (n : Int) (w : World) : Calls Try.prog 16 #[.int .i64 n] w fun e w' => e = .returned (.string (kindS n)) ∧ Below w.heap.size w w' := by
  by_cases h0 : n < 0
  · have H := hid h0
    go_enter Try.func16, Try.ntmps16
    go_wp2
    go_ret
    rw [kindS_out n (.inl H.out)]
    exact ⟨rfl, (Below.refl _ _).alloc (Nat.le_refl _) _⟩
  · by_cases h8 : 8 ≤ n
    · have H := hid h8
      go_enter Try.func16, Try.ntmps16
      go_wp2
      go_ret
      rw [kindS_out n (.inr H.out)]
      exact ⟨rfl, (Below.refl _ _).alloc (Nat.le_refl _) _⟩
    · obtain rfl | rfl | rfl | rfl | rfl | rfl | rfl | rfl : n = 0 ∨ n = 1 ∨ n = 2 ∨ n = 3 ∨ n = 4 ∨ n = 5 ∨ n = 6 ∨ n = 7 := by omega
      all_goals
        clear h0 h8
        go_enter Try.func16, Try.ntmps16
        go_wp2
        go_ret
        exact ⟨rfl, (Below.refl _ _).alloc (Nat.le_refl _) _⟩

set_option maxHeartbeats 1600000 in
theorem rkind_any (n : Int) (w : World) : Calls Try.prog 17 #[.int .i64 n] w fun e w' => e = .returned (.string (kindS n)) ∧ Below w.heap.size w w' := by
  by_cases h0 : n < 0
  · have H := hid h0
    go_enter Try.func17, Try.ntmps17
    go_wp2
    go_ret
    rw [kindS_out n (.inl H.out)]
    exact ⟨rfl, (Below.refl _ _).alloc (Nat.le_refl _) _⟩
  · by_cases h8 : 8 ≤ n
    · have H := hid h8
      go_enter Try.func17, Try.ntmps17
      go_wp2
      go_ret
      rw [kindS_out n (.inr H.out)]
      exact ⟨rfl, (Below.refl _ _).alloc (Nat.le_refl _) _⟩
    · obtain rfl | rfl | rfl | rfl | rfl | rfl | rfl | rfl : n = 0 ∨ n = 1 ∨ n = 2 ∨ n = 3 ∨ n = 4 ∨ n = 5 ∨ n = 6 ∨ n = 7 := by omega
      all_goals
        clear h0 h8
        go_enter Try.func17, Try.ntmps17
        go_wp2
        go_ret
        exact ⟨rfl, (Below.refl _ _).alloc (Nat.le_refl _) _⟩

end Go.Proofs.Ytkpopjpmjcgbfaa
