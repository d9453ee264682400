/- Slices of bytes, a scope whose jumps go forward, two bytes as a number. No conditions but sizes. -/
import Derived.Test.YtjmcjbmnggecgaaRgN
import Derived.ScopeJumps
import Derived.WalkMore
namespace Go.Proofs.Ytjmcjbmnggecgaa
open Go.RowKit
set_option maxRecDepth 100000
set_option linter.unusedVariables false
set_option linter.unusedSimpArgs false
section
variable {B : Nat} {w : World} {n c : Nat} {A : Option Addr}
theorem sl_from {xs : List Value} (hr : Rd w 1 A n xs) (hf : ∀ ad, A = some ad → ad.block < B) (k : Nat) (i : Int) (hi : i = (k : Int)) (hk : k ≤ n) (hc : n ≤ c) :
    ∃ A', (∀ W : World, (Instr.slice 30 (.slice A n c) (some (.int .i64 i)) none none).run Try.prog W = .ok (.slice A' (n - k) (c - k)) W) ∧ (∀ ad, A' = some ad → ad.block < B) ∧ Rd w 1 A' (n - k) (xs.drop k) := by
  subst hi
  obtain ⟨i0, hi, hz0, hz1, hz2⟩ := info_parts info5
  have hl := hr.1
  refine ⟨if c = k then A else A.map (·.add k), fun W => ?_, fun ad e => ?_, ?_, fun hn => ?_⟩
  · have hk' : (k : Int) ≤ (n : Int) := by omega
    simp [Instr.slice, Instr.sliceBounds, Instr.sliceBound, asIntOf, run_underlying Try.underlying30, sizeOf, typeInfo, hi, hz1, hk']
    intro hc'; omega
  · split at e
    · exact hf ad e
    · cases A with
      | none => simp at e
      | some a => simp at e; subst e; rw [block_of_add]; exact hf a rfl
  · simp; omega
  · obtain ⟨ad, rfl, hlt, hcs⟩ := hr.2 (by omega)
    rw [if_neg (by omega)]
    refine ⟨ad.add k, rfl, by rw [block_of_add]; exact hlt, fun j u hu => ?_⟩
    rw [add_of_add]
    exact hcs _ u (by simpa using hu)
theorem sl_to {xs : List Value} (hr : Rd w 1 A n xs) (k : Nat) (i : Int) (hi : i = (k : Int)) (hk : k ≤ n) (hc : n ≤ c) :
    (∀ W : World, (Instr.slice 30 (.slice A n c) none (some (.int .i64 i)) none).run Try.prog W = .ok (.slice A k c) W) ∧ Rd w 1 A k (xs.take k) := by
  subst hi
  obtain ⟨i0, hi, hz0, hz1, hz2⟩ := info_parts info5
  have hl := hr.1
  refine ⟨fun W => ?_, ?_, fun hn => ?_⟩
  · have hk' : (k : Int) ≤ (c : Int) := by omega
    have e : (A.map fun x => x.add 0) = A := by cases A with
      | none => rfl
      | some a => simp [Addr.add]
    simp [Instr.slice, Instr.sliceBounds, Instr.sliceBound, asIntOf, run_underlying Try.underlying30, sizeOf, typeInfo, hi, hz1, hk', e]
    intro hc'; omega
  · simp; omega
  · obtain ⟨ad, rfl, hlt, hcs⟩ := hr.2 (by omega)
    refine ⟨ad, rfl, hlt, fun j u hu => hcs j u ?_⟩
    rw [List.getElem?_take] at hu
    split at hu
    · exact hu
    · cases hu
end
theorem wp_scope_forward {P : Program} {a : Act} {w : World} {Q : Exit → Act → World → Prop} {c rest : Code} (l : Nat) (hf : findLabel c l = some rest)
    (first : c.wp P (Exit.jump l (fun a w => rest.wp P (Exit.noGoto Q) a w) Q) a w) : (Code.scope c).wp P Q a w :=
  wp_scope_jumps l (fun a w => rest.wp P (Exit.noGoto Q) a w) (fun _ _ => 0) hf first fun a w hJ => Code.wp_mono (fun e a w h => by
    cases e with
    | goto l' => exact h.elim
    | normal => exact h
    | exit id => exact h
    | ret => exact h
    | panic ch => exact h
    | outgrown => exact h) hJ
theorem jump_ret {l : Nat} {J : Act → World → Prop} {Q : Exit → Act → World → Prop} {a : Act} {w : World} : Exit.jump l J Q .ret a w = Q .ret a w := rfl


theorem or2 (a b : Nat) (ha : a < 256) (hb : b < 256) : bits .or .i64 ((a : Int) * 256) (b : Int) = ((256 * a + b : Nat) : Int) := by
  have h1 : (BitVec.ofInt 64 ((a * 256 : Nat) : Int)).toNat = a * 256 := by rw [BitVec.ofInt_natCast, BitVec.toNat_ofNat]; exact Nat.mod_eq_of_lt (by omega)
  have h2 : (BitVec.ofInt 64 (b : Int)).toNat = b := by rw [BitVec.ofInt_natCast, BitVec.toNat_ofNat]; exact Nat.mod_eq_of_lt (by omega)
  have h3 : a * 256 ||| b = a * 256 + b := nat_join 8 (a * 256) b (by omega) (by omega)
  have e : (a : Int) * 256 = ((a * 256 : Nat) : Int) := by omega
  rw [e]
  show IntKind.i64.wrap ((BitVec.ofInt 64 ((a * 256 : Nat) : Int) ||| BitVec.ofInt 64 (b : Int)).toNat : Int) = _
  rw [BitVec.toNat_or, h1, h2, h3, IntKind.wrap_i64]
  omega

theorem sl_lit {b o n c : Nat} (k : Nat) (i : Int) (hi : i = (k : Int)) (hk : k < n) (hc : n ≤ c) (W : World) : (Instr.slice 30 (.slice (some ⟨b, o, none⟩) n c) (some (.int .i64 i)) none none).run Try.prog W = .ok (.slice (some ⟨b, o + k, none⟩) (n - k) (c - k)) W := by
  subst hi
  obtain ⟨i0, hi, hz0, hz1, hz2⟩ := info_parts info5
  have hk' : (k : Int) ≤ (n : Int) := by omega
  simp [Instr.slice, Instr.sliceBounds, Instr.sliceBound, asIntOf, run_underlying Try.underlying30, sizeOf, typeInfo, hi, hz1, hk', Addr.add]
  rw [if_pos (show k ≤ n by omega), if_neg (show ¬ c = k by omega)]
  by_cases h0 : k = 0
  · subst h0; simp
  · rw [if_neg h0]
theorem sl_two {b o n c : Nat} {w : World} {xs : List Value} (hr : Rd w 1 (some ⟨b, o, none⟩) n xs) (k m : Nat) (i j : Int) (hi : i = (k : Int)) (hj : j = (m : Int)) (hk : k ≤ m) (hm : m ≤ n) (hc : n ≤ c) :
    ∃ A', (∀ W : World, (Instr.slice 30 (.slice (some ⟨b, o, none⟩) n c) (some (.int .i64 i)) (some (.int .i64 j)) none).run Try.prog W = .ok (.slice A' (m - k) (c - k)) W) ∧ Rd w 1 A' (m - k) ((xs.drop k).take (m - k)) := by
  subst hi
  subst hj
  obtain ⟨i0, hi, hz0, hz1, hz2⟩ := info_parts info5
  have hl := hr.1
  refine ⟨if c = k then some ⟨b, o, none⟩ else some (Addr.add ⟨b, o, none⟩ k), fun W => ?_, ?_, fun hn => ?_⟩
  · have hk' : (k : Int) ≤ (m : Int) := by omega
    have hm' : (m : Int) ≤ (c : Int) := by omega
    simp [Instr.slice, Instr.sliceBounds, Instr.sliceBound, asIntOf, run_underlying Try.underlying30, sizeOf, typeInfo, hi, hz1, hk', hm']
    rw [if_pos (show m ≤ c by omega), if_pos hk]
  · simp; omega
  · obtain ⟨ad, e, hlt, hcs⟩ := hr.2 (by omega)
    injection e with e
    subst e
    rw [if_neg (by omega)]
    refine ⟨_, rfl, by rw [block_of_add]; exact hlt, fun j u hu => ?_⟩
    rw [add_of_add]
    refine hcs _ u ?_
    rw [List.getElem?_take] at hu
    split at hu
    · simpa using hu
    · cases hu
theorem wpAnyH_mono {P : Program} {md : Region.Mode} {ops : Array Oper} {Q : Exit → Act → World → Prop} {S S' : World → Prop} (hS : ∀ w, S' w → S w) : ∀ (fuel : Nat) (listed : Array Bool) (a : Act) (w : World),
    wpAnyH P md ops Q S' fuel listed a w → wpAnyH P md ops Q S fuel listed a w
  | 0, _, _, _, h => h
  | fuel + 1, _, _, _, h => ⟨h.1, fun i hi => wpOp_mono (fun a' w' h' => ⟨hS _ h'.1, wpAnyH_mono hS fuel _ a' w' h'.2⟩) (h.2 i hi)⟩
end Go.Proofs.Ytjmcjbmnggecgaa
