/- A list of records as an argument, and its bulk. No conditions. -/
import Derived.Test.YtkpopjpmjcgbfaaArg
namespace Go.Proofs.Ytkpopjpmjcgbfaa
open Go.ChangeShapes Go.WideShapes Go.ChangeAt Go.RowKit Go.Deep
set_option linter.unusedVariables false

instance : Inhabited MRec := ⟨⟨0, 0, 0, 0, 0, 0, [], [], [], [], 0⟩⟩
def wt (r : MRec) : Nat := r.before.length + r.after.length + r.txns.length + r.dirty.length
def sumW (R : Nat → MRec) : Nat → Nat
  | 0 => 0
  | k + 1 => sumW R k + wt (R k)
theorem size_wt (r : MRec) : r.size ≤ 96 + 24 * wt r := by unfold MRec.size wt; omega
theorem sumW_mono (R : Nat → MRec) (a b : Nat) (h : a ≤ b) : sumW R a ≤ sumW R b := by
  induction b with
  | zero => have : a = 0 := by omega
            subst this; exact Nat.le_refl _
  | succ b ih =>
    rcases Nat.lt_or_ge a (b + 1) with h1 | h1
    · have := ih (by omega); simp only [sumW]; omega
    · have : a = b + 1 := by omega
      subst this; exact Nat.le_refl _

/-- a row of records reads as R says -/
def Recs (w : World) (A : Option Addr) (n : Nat) (R : Nat → MRec) : Prop :=
  ∀ k, k < n → ∃ b o BA bc AA ac TA tc DA dc, A = some ⟨b, o, none⟩ ∧ b < w.heap.size ∧ (∀ j, j < 11 → w.cell? ⟨b, o + k * 11 + j, none⟩ = (recCells (R k) BA bc AA ac TA tc DA dc)[j]?) ∧ RecMem w (R k) BA AA TA DA

section
variable {H : Type} {enc : TypeId × Value → H}
theorem bulk_append {H : Type} (l r : List (DataW H)) : Rows.uptoBulkAll (l ++ r) = Rows.uptoBulkAll l + Rows.uptoBulkAll r := by
  induction l with
  | nil => simp [Rows.uptoBulkAll]
  | cons d l ih => simp only [List.cons_append, Rows.uptoBulkAll, ih]; omega
theorem bulk_range {H : Type} (D : Nat → DataW H) (R : Nat → MRec) (n : Nat) (h : ∀ k, k < n → wt (R k) ≤ Rows.uptoBulk (D k)) : sumW R n ≤ Rows.uptoBulkAll ((List.range n).map D) := by
  induction n with
  | zero => simp [sumW]
  | succ n ih =>
    rw [List.range_succ, List.map_append, bulk_append]
    have h1 := ih fun k hk => h k (by omega)
    have h2 := h n (by omega)
    simp only [sumW, List.map_cons, List.map_nil, Rows.uptoBulkAll]
    omega

theorem arg_recs {w : World} {j : Nat} {v : Value} {d : DataW H} {p : List MemPlace} (hv : Value.okWide Try.prog w .any j 22 v) (h : DataW.Trod enc Try.prog w 0 (fun _ => true) true 22 v d p) :
    ∃ A n c R, v = .slice A n c ∧ n ≤ 9223372036854775807 ∧ Recs w A n R ∧ sumW R n ≤ Rows.uptoBulk d := by
  obtain ⟨a0, len, cap, rfl⟩ := okWide_slice Try.underlying22 hv
  obtain ⟨fuel, hf⟩ := h
  rcases open_slice_fields Try.underlying22 Try.underlying28 (by kernel_rfl) (by kernel_rfl) hf with ⟨hcs, hx⟩ | ⟨a, len', cap', m, D, Pl, hcs, _, hl, hm, hmm, hx, hi⟩
  · simp [Value.cells] at hcs
    obtain ⟨rfl, rfl, rfl⟩ := hcs
    exact ⟨none, 0, 0, fun _ => default, rfl, by omega, fun k hk => absurd hk (by omega), by simp [sumW]⟩
  · simp [Value.cells] at hcs
    obtain ⟨rfl, rfl, rfl⟩ := hcs
    simp only [if_true] at hmm
    have hb : ∀ i, i < m → ∃ r : MRec, (∃ BA bc AA ac TA tc DA dc, (∀ j, j < 11 → w.cell? (a.add (i * 11 + j)) = (recCells r BA bc AA ac TA tc DA dc)[j]?) ∧ RecMem w r BA AA TA DA) ∧ wt r ≤ Rows.uptoBulk (D i) := fun i him => by
      obtain ⟨ys, n, hD, _, hyl, hF⟩ := hi i him
      obtain ⟨r, BA, bc, AA, ac, TA, tc, DA, dc, hg, hm, hb⟩ := rec_of_fields (get := fun j => w.cell? (a.add (i * 11 + j))) Try.underlying28 hyl hF
      refine ⟨r, ⟨BA, bc, AA, ac, TA, tc, DA, dc, hg, hm⟩, ?_⟩
      rw [hD]
      simp only [Rows.uptoBulk, wt]
      omega
    obtain ⟨R, hR⟩ := choose_lt (α := MRec) hb
    refine ⟨some a, len, cap, R, rfl, by unfold maxLen at hm; omega, fun k hk => ?_, ?_⟩
    · obtain ⟨⟨BA, bc, AA, ac, TA, tc, DA, dc, hg, hm⟩, _⟩ := hR k (by omega)
      obtain ⟨⟨_, _, _, _, _, _, _, _, hg0, _⟩, _⟩ := hR 0 (by omega)
      obtain ⟨b, o, rfl⟩ := addr_lit (ad := a) (w := w) (hg0 0 (by omega))
      have hlt := World.block_lt_of_cell? w _ ((hg0 0 (by omega)).trans rfl)
      rw [block_of_add] at hlt
      refine ⟨b, o, BA, bc, AA, ac, TA, tc, DA, dc, rfl, hlt, fun j hj => ?_, hm⟩
      have := hg j hj
      rw [Addr.add_lit, ← Nat.add_assoc] at this
      exact this
    · have hx1 : d = _ := congrArg Prod.fst hx
      rw [hx1]
      have := bulk_range D R len fun k hk => (hR k (by omega)).2
      simp only [Rows.uptoBulk]
      omega
end
end Go.Proofs.Ytkpopjpmjcgbfaa
