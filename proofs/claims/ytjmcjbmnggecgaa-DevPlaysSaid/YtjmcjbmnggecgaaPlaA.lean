/- DevPlays: a script as an argument. No conditions. -/
import Derived.Test.YtjmcjbmnggecgaaPla
import Derived.Test.YtjmcjbmnggecgaaLaw
import Derived.Deep.Fields
import Derived.ChangeSame
namespace Go.Proofs.Ytjmcjbmnggecgaa
open Go.ChangeShapes Go.WideShapes Go.ChangeAt Go.RowKit Go.Deep
set_option linter.unusedVariables false

section
variable {H : Type} {enc : TypeId × Value → H} {P : Program} {w : World} {base : Nat} {spare : Nat → Bool} {held : Bool}
theorem open_slice_fields {t e : TypeId} {fs : Array Field} {fuel : Nat} {cs : List Value} {x : DataW H × List MemPlace} (ht : P.underlying t = some (.slice e)) (he : P.underlying e = some (.struct fs))
    (hone : oneCellFields P fs = true) (hC : P.cellsOf e = fs.size) (h : DataW.trod enc P w base spare held fuel t cs = some x) :
    (cs = [.slice none 0 0] ∧ x = (.nil, [])) ∨
    ∃ (a : Addr) (len cap m : Nat) (D : Nat → DataW H) (Pl : Nat → List MemPlace), cs = [.slice (some a) len cap] ∧ base ≤ a.block ∧ len ≤ cap ∧ cap ≤ maxLen ∧ m = (if spare a.block then cap else len) ∧
      x = (.slice ((List.range len).map D) ((List.range (m - len)).map fun j => D (len + j)), MemPlace.row a (m * fs.size) ++ (List.range m).flatMap Pl) ∧
      ∀ i, i < m → ∃ (ys : List (DataW H × List MemPlace)) (n : Nat), D i = .agg (ys.map (·.1)) ∧ Pl i = ys.flatMap (·.2) ∧ ys.length = fs.size ∧
        ∀ (j : Nat) (f : Field), fs[j]? = some f → ∃ (v : Value) (y : DataW H × List MemPlace), w.cell? (a.add (i * fs.size + j)) = some v ∧ ys[j]? = some y ∧ DataW.trod enc P w base spare held n f.type [v] = some y := by
  rcases open_slice ht h with h0 | ⟨a, len, cap, m, n, D, Pl, hcs, hb, hl, hm, hmm, hx, hi⟩
  · exact .inl h0
  · refine .inr ⟨a, len, cap, m, D, Pl, hcs, hb, hl, hm, hmm, by rw [hC] at hx; exact hx, fun i him => ?_⟩
    obtain ⟨cs', hc, ht'⟩ := hi i him
    rw [hC] at hc
    obtain ⟨ys, n', hn', hy, hlen, hyl, hf⟩ := DataW.trod_struct he ht'
    obtain ⟨_, hcl, hat⟩ := World.cells?_some hc
    simp only [Prod.mk.injEq] at hy
    refine ⟨ys, n', hy.1, hy.2, hyl, fun j f hj => ?_⟩
    obtain ⟨ho, hk⟩ := hone_of hone j f hj
    have hjl : j < fs.size := (Array.getElem?_eq_some_iff.1 hj).1
    have hcell := hat j hjl
    have hv : cs'[j]? = some (cs'[j]'(by omega)) := List.getElem?_eq_getElem (by omega)
    have h1 := hf j f hj
    rw [ho, hk] at h1
    have hone' : (cs'.drop j).take 1 = [cs'[j]'(by omega)] := by
      rw [List.drop_eq_getElem_cons (by omega)]
      rfl
    rw [hone'] at h1
    have hys : ys[j]? = some (ys[j]'(by omega)) := List.getElem?_eq_getElem (by omega)
    refine ⟨_, _, ?_, hys, h1.trans hys⟩
    rw [← Go.Deep.add_add, hcell, hv]

theorem trod_bools {w : World} {fuel : Nat} {v : Value} {y : DataW H × List MemPlace} (hf : DataW.trod enc Try.prog w 0 (fun _ => true) true fuel 23 [v] = some y) :
    ∃ A c ks, v = .slice A ks.length c ∧ Rd w 1 A ks.length (bls ks) ∧ ks.length ≤ 9223372036854775807 := by
  rcases open_slice1 Try.underlying23 (by kernel_rfl) hf with ⟨hcs, hx⟩ | ⟨a, len', cap', m, n, V, D, Pl, hcs, _, hl, hm, hmm, hx, hcell⟩
  · injection hcs with hcs
    subst hcs
    exact ⟨none, 0, [], rfl, Rd.none_, by simp⟩
  · injection hcs with hcs
    subst hcs
    simp only [if_true] at hmm
    have hb : ∀ i, i < m → ∃ b, V i = .bool b := fun i hi => by
      obtain ⟨b, hb, _⟩ := DataW.trod_bool Try.underlying4 (hcell i hi).2
      injection hb with hb _
      exact ⟨b, hb⟩
    let bo : Nat → Bool := fun i => match V i with | .bool b => b | _ => false
    have hbo : ∀ i, i < m → V i = .bool (bo i) := fun i hi => by
      obtain ⟨b, e⟩ := hb i hi
      simp [bo, e]
    refine ⟨some a, cap', (List.range len').map bo, by simp, ⟨by simp [bls], fun hn => ⟨a, rfl, ?_, fun j u hu => ?_⟩⟩, by unfold maxLen at hm; simp; omega⟩
    · have := World.block_lt_of_cell? w _ (hcell 0 (by simp at hn; omega)).1
      rwa [block_of_add] at this
    · have hj : j < len' := by have := (List.getElem?_eq_some_iff.1 hu).1; simp [bls] at this; omega
      rw [(hcell j (by omega)).1, hbo j (by omega), ← hu]
      simp [bls, hj]

/-- a step of a script, as its cells lie from b, o on -/
structure OpAt (w : World) (b o : Nat) (kd ii aa bb sz : Int) (KA : Option Addr) (kc : Nat) (ks : List Bool) : Prop where
  lt : b < w.heap.size
  c0 : w.cell? ⟨b, o, none⟩ = some (.int .i64 kd)
  c1 : w.cell? ⟨b, o + 1, none⟩ = some (.int .i64 ii)
  c2 : w.cell? ⟨b, o + 2, none⟩ = some (.int .i64 aa)
  c3 : w.cell? ⟨b, o + 3, none⟩ = some (.int .i64 bb)
  c4 : w.cell? ⟨b, o + 4, none⟩ = some (.int .i64 sz)
  c5 : w.cell? ⟨b, o + 5, none⟩ = some (.slice KA ks.length kc)
  rd : Rd w 1 KA ks.length (bls ks)
  len : ks.length ≤ 9223372036854775807
  wa : aa ≤ 9223372036854775807
  ws : sz ≤ 9223372036854775807

def Script (w : World) (A : Option Addr) (n : Nat) : Prop := ∀ k, k < n → ∃ b o kd ii aa bb sz KA kc ks, A = some ⟨b, o, none⟩ ∧ OpAt w b (o + k * 6) kd ii aa bb sz KA kc ks

theorem arg_ops {w : World} {j : Nat} {v : Value} {d : DataW H} {p : List MemPlace} (hv : Value.okWide Try.prog w .any j 41 v) (h : DataW.Trod enc Try.prog w 0 (fun _ => true) true 41 v d p) :
    ∃ A n c, v = .slice A n c ∧ n ≤ 9223372036854775807 ∧ Script w A n := by
  obtain ⟨a0, len, cap, rfl⟩ := okWide_slice Try.underlying41 hv
  obtain ⟨fuel, hf⟩ := h
  rcases open_slice_fields Try.underlying41 Try.underlying46 (by kernel_rfl) (by kernel_rfl) hf with ⟨hcs, hx⟩ | ⟨a, len', cap', m, D, Pl, hcs, _, hl, hm, hmm, hx, hi⟩
  · simp [Value.cells] at hcs
    obtain ⟨rfl, rfl, rfl⟩ := hcs
    exact ⟨none, 0, 0, rfl, by omega, fun k hk => absurd hk (by omega)⟩
  · simp [Value.cells] at hcs
    obtain ⟨rfl, rfl, rfl⟩ := hcs
    simp only [if_true] at hmm
    refine ⟨some a, len, cap, rfl, by unfold maxLen at hm; omega, fun k hk => ?_⟩
    obtain ⟨ys, n, _, _, _, hF⟩ := hi k (by omega)
    obtain ⟨v0, y0, h0, _, t0⟩ := hF 0 _ rfl
    obtain ⟨v1, y1, h1, _, t1⟩ := hF 1 _ rfl
    obtain ⟨v2, y2, h2, _, t2⟩ := hF 2 _ rfl
    obtain ⟨v3, y3, h3, _, t3⟩ := hF 3 _ rfl
    obtain ⟨v4, y4, h4, _, t4⟩ := hF 4 _ rfl
    obtain ⟨v5, y5, h5, _, t5⟩ := hF 5 _ rfl
    obtain ⟨kd, e0, _, _⟩ := DataW.trod_int Try.underlying3 t0
    obtain ⟨ii, e1, _, _⟩ := DataW.trod_int Try.underlying3 t1
    obtain ⟨aa, e2, _, w2⟩ := DataW.trod_int Try.underlying3 t2
    obtain ⟨bb, e3, _, _⟩ := DataW.trod_int Try.underlying3 t3
    obtain ⟨sz, e4, _, w4⟩ := DataW.trod_int Try.underlying3 t4
    obtain ⟨KA, kc, ks, rfl, hr, hkl⟩ := trod_bools t5
    injection e0 with e0
    injection e1 with e1
    injection e2 with e2
    injection e3 with e3
    injection e4 with e4
    subst e0 e1 e2 e3 e4
    have hlt := World.block_lt_of_cell? w _ h0
    rw [block_of_add] at hlt
    obtain ⟨b, o, s⟩ := a
    have hs : s = none := by
      obtain ⟨_, _, _, _, _, hF0⟩ := hi 0 (by omega)
      obtain ⟨_, _, h0', _, _⟩ := hF0 0 _ rfl
      cases s with
      | none => rfl
      | some s =>
        simp only [Addr.add, Nat.zero_mul, Nat.zero_add, if_true] at h0'
        unfold World.cell? at h0'
        split at h0'
        · simp at h0'
        · cases h0'
    subst hs
    rw [Addr.add_lit] at h0 h1 h2 h3 h4 h5
    simp only [List.size_toArray, List.length_cons, List.length_nil] at h0 h1 h2 h3 h4 h5
    simp only [← Nat.add_assoc] at h1 h2 h3 h4 h5
    refine ⟨b, o, kd, ii, aa, bb, sz, KA, kc, ks, rfl, hlt, h0, h1, h2, h3, h4, h5, hr, hkl, ?_, ?_⟩
    · have := (by simpa [Lit.wf, IntKind.min, IntKind.max, IntKind.signed, IntKind.bits] using w2 : -9223372036854775808 ≤ aa ∧ aa ≤ 9223372036854775807); omega
    · have := (by simpa [Lit.wf, IntKind.min, IntKind.max, IntKind.signed, IntKind.bits] using w4 : -9223372036854775808 ≤ sz ∧ sz ≤ 9223372036854775807); omega
end
end Go.Proofs.Ytjmcjbmnggecgaa
