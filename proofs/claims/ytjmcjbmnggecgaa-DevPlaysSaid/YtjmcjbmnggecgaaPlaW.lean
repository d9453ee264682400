/- DevPlays: the walk. -/
import Derived.Test.YtjmcjbmnggecgaaPlaA
import Derived.BigQuiet
namespace Go.Proofs.Ytjmcjbmnggecgaa
open Go.RowKit
set_option maxRecDepth 100000
set_option linter.unusedSimpArgs false

set_option maxHeartbeats 1600000 in
theorem plays_nil (n : Int) (SA : Option Addr) (sn sc : Nat) (w : World) (hn : n < 1 ∨ 8192 < n) (hsn : sn ≤ 9223372036854775807) :
    Calls Try.prog 5 #[.int .i64 n, .slice SA sn sc] w fun e w' => e = .returned (.bool true) ∧ Below w.heap.size w w' := by
  go_enter Try.func5, Try.ntmps5
  go_wp2_with fail
  refine (new_arg n _ hn).mono ?_
  rintro e w1 ⟨rfl, rfl⟩
  go_wp2_with fail
  refine (rnew_arg n _ hn).mono ?_
  rintro e w1 ⟨rfl, rfl⟩
  go_wp2_with fail
  refine (awake_any _).mono ?_
  rintro e w1 ⟨rfl, hb1⟩
  have Hb := hid hb1
  clear hb1
  go_wp2_with fail
  go_loopw [5, 9] (fun d i wr => d = .pointer none ∧ i = .int .i64 0 ∧ Below w.heap.size w wr) (fun _ _ _ => 0)
  case atStart => exact ⟨rfl, rfl, Hb.out⟩
  case round =>
    obtain ⟨rfl, rfl, hb⟩ := hrel
    have Hr := hid hb
    clear hb
    by_cases h0 : 0 < sn
    · have h0' : (0 : Int) < (sn : Int) := by omega
      go_wp2
      go_ret
      exact ⟨rfl, Hr.out⟩
    · have h0' : decide ((0 : Int) < (sn : Int)) = false := by simp; omega
      go_wp2
      go_ret
      exact ⟨rfl, Hr.out⟩
end Go.Proofs.Ytjmcjbmnggecgaa
