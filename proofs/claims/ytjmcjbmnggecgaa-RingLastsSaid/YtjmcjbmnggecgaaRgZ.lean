/- append(s, make([]byte, n)...): the same as n zero bytes out of a string. No conditions but sizes. -/
import Derived.Test.YtjmcjbmnggecgaaRgm
import Derived.Lib.AppendStr
namespace Go.Proofs.Ytjmcjbmnggecgaa
open Go.RowKit
set_option linter.unusedVariables false
/-- n zero bytes -/
def zs (n : Nat) : ByteArray := ⟨(List.replicate n (0 : UInt8)).toArray⟩
theorem zs_size (n : Nat) : (zs n).size = n := by
  show (List.replicate n (0 : UInt8)).toArray.size = n
  simp
theorem zs_cells (n : Nat) : Lib.strCells (zs n) = u8s (List.replicate n 0) := by
  simp [Lib.strCells, zs, u8s]
theorem run_zeros_cells (P : Program) (w : World) (n : Nat) : (Builtin.firstCells 1 n (.string (zs n))).run P w = .ok (Builtin.zeroCells #[.int .u8 0] n) w := by
  have h := Lib.run_firstCells_string (P := P) w 1 (zs n)
  rw [zs_size, zs_cells] at h
  rw [h]
  congr 1
  apply Array.ext
  · simp [Builtin.zeroCells, u8s]
  · intro i h1 h2
    simp [Builtin.zeroCells, u8s, Nat.mod_one]
theorem run_append_zeros (w : World) (b : Option Addr) (sLen sCap n : Nat) (ty : TypeId) (h : sLen + n ≤ 1000000) (hle : sLen ≤ sCap) (i : TypeInfo) (hi : Try.prog.info? 5 = some i) (hz : i.zero = some (.int .u8 0)) (hs : i.size = 1) (hb : i.bytes = 1) :
    (Builtin.append_ #[30, 3] ty #[.slice b sLen sCap, .int .i64 n]).run Try.prog w = (Builtin.append_ #[30, 9] ty #[.slice b sLen sCap, .string (zs n)]).run Try.prog w := by
  have hw : IntKind.i64.wrap (n : Int) = (n : Int) := by rw [IntKind.wrap_i64]; omega
  have hn0 : ¬ ((n : Int) < 0) := by omega
  have h48 : ¬ (281474976710656 < (n : Int)) := by omega
  have hf := fun w' : World => run_zeros_cells Try.prog w' n
  have hsz := zs_size n
  have hc : (Value.int IntKind.u8 0).cells = #[.int .u8 0] := rfl
  by_cases hroom : sLen + n ≤ sCap
  · by_cases h0 : n = 0
    · subst h0
      have e : Builtin.zeroCells #[.int .u8 0] 0 = #[] := by simp [Builtin.zeroCells]
      simp only [e] at hf
      have hw0 : IntKind.i64.wrap 0 = 0 := by rw [IntKind.wrap_i64]; omega
      have hcap : sLen ≤ sCap := hle
      simp [Builtin.append_, run_underlying Try.underlying30, run_underlying Try.underlying3, run_underlying Try.underlying9, sizeOf, typeInfo, zeroValue, hi, hz, hs, hb, Builtin.lenOf, asInt, asIntOf, hf, hsz, hc, hw0, hcap]
    · have hn1 : ¬ n * i.size = 0 := by rw [hs]; omega
      simp [Builtin.append_, run_underlying Try.underlying30, run_underlying Try.underlying3, run_underlying Try.underlying9, sizeOf, typeInfo, zeroValue, hi, hz, hs, hb, Builtin.lenOf, asInt, asIntOf, hw, hn0, h48, hroom, hf, hsz, hc, h0]
  · have hcap : ¬ (9223372036854775807 < ((sLen : Int) + (n : Int))) := by omega
    have hfit : ¬ (281474976710656 < Builtin.nextslicecap (sLen + n) sCap) := by
      have := growslice_fits (need := sLen + n) (old := sCap) (bytes := 1) (by omega) (by omega)
      omega
    by_cases h0 : n = 0
    · subst h0
      exact absurd (by omega) hroom
    · simp [Builtin.append_, run_underlying Try.underlying30, run_underlying Try.underlying3, run_underlying Try.underlying9, sizeOf, typeInfo, zeroValue, hi, hz, hs, hb, Builtin.lenOf, asInt, asIntOf, hw, hn0, h48, hroom, hf, hsz, hcap, hfit, hc, h0, Question.forced, newRow]
end Go.Proofs.Ytjmcjbmnggecgaa
