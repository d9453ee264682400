/- Bytes, and lists of bytes, as arguments. No conditions. -/
import Derived.Test.YtjmcjbmnggecgaaRgB
import Derived.Test.YtjmcjbmnggecgaaLaw
import Derived.Deep.Fields
import Derived.ChangeSame
namespace Go.Proofs.Ytjmcjbmnggecgaa
open Go.ChangeShapes Go.WideShapes Go.ChangeAt Go.RowKit Go.Deep
set_option linter.unusedVariables false

section
variable {H : Type} {enc : TypeId × Value → H}
theorem u8_of {z : Int} (h : (Lit.int .u8 z).wf = true) : ∃ b : UInt8, z = (b.toNat : Int) := by
  have h' := (by simpa [Lit.wf, IntKind.min, IntKind.max, IntKind.signed, IntKind.bits] using h : 0 ≤ z ∧ z ≤ 255)
  refine ⟨UInt8.ofNat z.toNat, ?_⟩
  rw [UInt8.toNat_ofNat']
  omega

theorem trod_bytes {w : World} {fuel : Nat} {v : Value} {y : DataW H × List MemPlace} (hf : DataW.trod enc Try.prog w 0 (fun _ => true) true fuel 30 [v] = some y) :
    ∃ A c bs, v = .slice A bs.length c ∧ Rd w 1 A bs.length (u8s bs) ∧ bs.length ≤ c ∧ c ≤ maxLen := by
  rcases open_slice1 Try.underlying30 (by kernel_rfl) hf with ⟨hcs, hx⟩ | ⟨a, len', cap', m, n, V, D, Pl, hcs, _, hl, hm, hmm, hx, hcell⟩
  · injection hcs with hcs
    subst hcs
    exact ⟨none, 0, [], rfl, Rd.none_, by simp, by simp⟩
  · injection hcs with hcs
    subst hcs
    simp only [if_true] at hmm
    have hb : ∀ i, i < m → ∃ b : UInt8, V i = .int .u8 (b.toNat : Int) := fun i hi => by
      obtain ⟨z, hz, _, hw⟩ := DataW.trod_int Try.underlying5 (hcell i hi).2
      injection hz with hz _
      obtain ⟨b, rfl⟩ := u8_of hw
      exact ⟨b, hz⟩
    let bo : Nat → UInt8 := fun i => match V i with | .int _ z => UInt8.ofNat z.toNat | _ => 0
    have hbo : ∀ i, i < m → V i = .int .u8 ((bo i).toNat : Int) := fun i hi => by
      obtain ⟨b, e⟩ := hb i hi
      have : bo i = b := by simp [bo, e]
      rw [this, e]
    have hlt : 0 < cap' → a.block < w.heap.size := fun h => by
      have := World.block_lt_of_cell? w _ (hcell 0 (by omega)).1
      rwa [block_of_add] at this
    refine ⟨some a, cap', (List.range len').map bo, by simp, ⟨by simp [u8s], fun hn => ⟨a, rfl, hlt (by simp at hn; omega), fun j u hu => ?_⟩⟩, by simpa using hl, hm⟩
    have hj : j < len' := by have := (List.getElem?_eq_some_iff.1 hu).1; simp [u8s] at this; omega
    rw [(hcell j (by omega)).1, hbo j (by omega), ← hu]
    simp [u8s, hj]

theorem arg_bytes {w : World} {j : Nat} {v : Value} {d : DataW H} {p : List MemPlace} (hv : Value.okWide Try.prog w .any j 30 v) (h : DataW.Trod enc Try.prog w 0 (fun _ => true) true 30 v d p) :
    ∃ A c bs, v = .slice A bs.length c ∧ Rd w 1 A bs.length (u8s bs) ∧ bs.length ≤ c ∧ c ≤ maxLen := by
  obtain ⟨a0, len, cap, rfl⟩ := okWide_slice Try.underlying30 hv
  obtain ⟨fuel, hf⟩ := h
  exact trod_bytes hf

/-- a row of byte slices -/
def RowsAt (w : World) (A : Option Addr) (n : Nat) : Prop :=
  ∀ k, k < n → ∃ ad A' c' bs, A = some ad ∧ ad.block < w.heap.size ∧ w.cell? (ad.add k) = some (.slice A' bs.length c') ∧ Rd w 1 A' bs.length (u8s bs) ∧ bs.length ≤ c' ∧ c' ≤ 9223372036854775807
theorem arg_rows {w : World} {j : Nat} {v : Value} {d : DataW H} {p : List MemPlace} (hv : Value.okWide Try.prog w .any j 58 v) (h : DataW.Trod enc Try.prog w 0 (fun _ => true) true 58 v d p) :
    ∃ A n c, v = .slice A n c ∧ n ≤ 9223372036854775807 ∧ RowsAt w A n := by
  obtain ⟨a0, len, cap, rfl⟩ := okWide_slice Try.underlying58 hv
  obtain ⟨fuel, hf⟩ := h
  rcases open_slice1 Try.underlying58 (by kernel_rfl) hf with ⟨hcs, hx⟩ | ⟨a, len', cap', m, n, V, D, Pl, hcs, _, hl, hm, hmm, hx, hcell⟩
  · simp [Value.cells] at hcs
    obtain ⟨rfl, rfl, rfl⟩ := hcs
    exact ⟨none, 0, 0, rfl, by omega, fun k hk => absurd hk (by omega)⟩
  · simp [Value.cells] at hcs
    obtain ⟨rfl, rfl, rfl⟩ := hcs
    simp only [if_true] at hmm
    refine ⟨some a, len, cap, rfl, by unfold maxLen at hm; omega, fun k hk => ?_⟩
    obtain ⟨hc, ht⟩ := hcell k (by omega)
    obtain ⟨A', c', bs, e, hr, hl', hm'⟩ := trod_bytes ht
    have hb := World.block_lt_of_cell? w _ hc
    rw [block_of_add] at hb
    exact ⟨a, A', c', bs, rfl, hb, by rw [hc, e], hr, hl', by unfold maxLen at hm'; omega⟩
/-- a list's address is a block's cell -/
theorem RowsAt.lit {w : World} {A : Option Addr} {n k : Nat} (h : RowsAt w A n) (hk : k < n) : ∃ b o A' c' bs, A = some ⟨b, o, none⟩ ∧ b < w.heap.size ∧ w.cell? ⟨b, o + k, none⟩ = some (.slice A' bs.length c') ∧ Rd w 1 A' bs.length (u8s bs) ∧ bs.length ≤ c' ∧ c' ≤ 9223372036854775807 := by
  obtain ⟨ad, A', c', bs, rfl, hb, hc, hr, hl⟩ := h k hk
  obtain ⟨b, o, s⟩ := ad
  have hs : s = none := by
    obtain ⟨ad0, A0, c0, bs0, e0, _, hc0, _, _⟩ := h 0 (by omega)
    injection e0 with e0
    subst e0
    cases s with
    | none => rfl
    | some s =>
      simp only [Addr.add, if_pos] at hc0
      unfold World.cell? at hc0
      split at hc0
      · simp at hc0
      · cases hc0
  subst hs
  refine ⟨b, o, A', c', bs, rfl, hb, ?_, hr, hl⟩
  rwa [Addr.add_lit] at hc
theorem RowsAt.below {w w' : World} {A : Option Addr} {n : Nat} (h : RowsAt w A n) (hb : Below w.heap.size w w') : RowsAt w' A n := by
  intro k hk
  obtain ⟨ad, A', c', bs, rfl, hlt, hc, hr, hl⟩ := h k hk
  exact ⟨ad, A', c', bs, rfl, Nat.lt_of_lt_of_le hlt hb.size, (World.cell?_of_block (w := w) (by rw [block_of_add]; exact hb.block _ hlt)).trans hc, hr.below hb, hl⟩
end
end Go.Proofs.Ytjmcjbmnggecgaa
