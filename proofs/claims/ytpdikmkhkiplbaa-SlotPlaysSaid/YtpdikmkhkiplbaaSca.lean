/- SlotPlays: a script as an argument, and what a step makes of a page. No conditions. -/
import Derived.Test.YtpdikmkhkiplbaaAsk
import Derived.Test.YtpdikmkhkiplbaaArg
namespace Go.Proofs.Ytpdikmkhkiplbaa
open Go.ChangeShapes Go.WideShapes Go.ChangeAt Go.RowKit Go.Deep
set_option linter.unusedVariables false

section
variable {H : Type} {enc : TypeId × Value → H} {P : Program} {w : World} {base : Nat} {spare : Nat → Bool} {held : Bool}
theorem open_slice_fields {t e : TypeId} {fs : Array Field} {fuel : Nat} {cs : List Value} {x : DataW H × List MemPlace} (ht : P.underlying t = some (.slice e)) (he : P.underlying e = some (.struct fs))
    (hone : oneCellFields P fs = true) (hC : P.cellsOf e = fs.size) (h : DataW.trod enc P w base spare held fuel t cs = some x) :
    (cs = [.slice none 0 0] ∧ x = (.nil, [])) ∨
    ∃ (a : Addr) (len cap m : Nat) (D : Nat → DataW H) (Pl : Nat → List MemPlace), cs = [.slice (some a) len cap] ∧ base ≤ a.block ∧ len ≤ cap ∧ cap ≤ maxLen ∧ m = (if spare a.block then cap else len) ∧
      x = (.slice ((List.range len).map D) ((List.range (m - len)).map fun j => D (len + j)), MemPlace.row a (m * fs.size) ++ (List.range m).flatMap Pl) ∧
      ∀ i, i < m → ∃ (ys : List (DataW H × List MemPlace)) (n : Nat), D i = .agg (ys.map (·.1)) ∧ Pl i = ys.flatMap (·.2) ∧ ys.length = fs.size ∧
        ∀ (j : Nat) (f : Field), fs[j]? = some f → ∃ (v : Value) (y : DataW H × List MemPlace), w.cell? (a.add (i * fs.size + j)) = some v ∧ ys[j]? = some y ∧ DataW.trod enc P w base spare held n f.type [v] = some y := by
  rcases open_slice ht h with h0 | ⟨a, len, cap, m, n, D, Pl, hcs, hb, hl, hm, hmm, hx, hi⟩
  · exact .inl h0
  · refine .inr ⟨a, len, cap, m, D, Pl, hcs, hb, hl, hm, hmm, by rw [hC] at hx; exact hx, fun i him => ?_⟩
    obtain ⟨cs', hc, ht'⟩ := hi i him
    rw [hC] at hc
    obtain ⟨ys, n', hn', hy, hlen, hyl, hf⟩ := DataW.trod_struct he ht'
    obtain ⟨_, hcl, hat⟩ := World.cells?_some hc
    simp only [Prod.mk.injEq] at hy
    refine ⟨ys, n', hy.1, hy.2, hyl, fun j f hj => ?_⟩
    obtain ⟨ho, hk⟩ := hone_of hone j f hj
    have hjl : j < fs.size := (Array.getElem?_eq_some_iff.1 hj).1
    have hcell := hat j hjl
    have hv : cs'[j]? = some (cs'[j]'(by omega)) := List.getElem?_eq_getElem (by omega)
    have h1 := hf j f hj
    rw [ho, hk] at h1
    have hone' : (cs'.drop j).take 1 = [cs'[j]'(by omega)] := by
      rw [List.drop_eq_getElem_cons (by omega)]
      rfl
    rw [hone'] at h1
    have hys : ys[j]? = some (ys[j]'(by omega)) := List.getElem?_eq_getElem (by omega)
    refine ⟨_, _, ?_, hys, h1.trans hys⟩
    rw [← Go.Deep.add_add, hcell, hv]

/-- a step of a script, as its cells lie from b, o on -/
structure OpAt (w : World) (b o : Nat) (kd ii : Int) (DA : Option Addr) (dc : Nat) (d : List UInt8) : Prop where
  lt : b < w.heap.size
  c0 : w.cell? ⟨b, o, none⟩ = some (.int .i64 kd)
  c1 : w.cell? ⟨b, o + 1, none⟩ = some (.int .i64 ii)
  c2 : w.cell? ⟨b, o + 2, none⟩ = some (.slice DA d.length dc)
  rd : Rd w 1 DA d.length (u8s d)
def Script (w : World) (A : Option Addr) (n : Nat) : Prop := ∀ k, k < n → ∃ b o kd ii DA dc d, A = some ⟨b, o, none⟩ ∧ OpAt w b (o + k * 3) kd ii DA dc d
theorem OpAt.below {w w' : World} {b o : Nat} {kd ii : Int} {DA : Option Addr} {dc : Nat} {d : List UInt8} (h : OpAt w b o kd ii DA dc d) (hb : Below w.heap.size w w') : OpAt w' b o kd ii DA dc d :=
  ⟨Nat.lt_of_lt_of_le h.lt hb.size, (hb.cell (p := ⟨b, o, none⟩) h.lt).trans h.c0, (hb.cell (p := ⟨b, o + 1, none⟩) h.lt).trans h.c1, (hb.cell (p := ⟨b, o + 2, none⟩) h.lt).trans h.c2, h.rd.below hb⟩

theorem arg_ops {w : World} {j : Nat} {v : Value} {d : DataW H} {p : List MemPlace} (hv : Value.okWide Try.prog w .any j 41 v) (h : DataW.Trod enc Try.prog w 0 (fun _ => true) true 41 v d p) :
    ∃ A n c, v = .slice A n c ∧ n ≤ 9223372036854775807 ∧ Script w A n := by
  obtain ⟨a0, len, cap, rfl⟩ := okWide_slice Try.underlying41 hv
  obtain ⟨fuel, hf⟩ := h
  rcases open_slice_fields Try.underlying41 Try.underlying43 (by kernel_rfl) (by kernel_rfl) hf with ⟨hcs, hx⟩ | ⟨a, len', cap', m, D, Pl, hcs, _, hl, hm, hmm, hx, hi⟩
  · simp [Value.cells] at hcs
    obtain ⟨rfl, rfl, rfl⟩ := hcs
    exact ⟨none, 0, 0, rfl, by omega, fun k hk => absurd hk (by omega)⟩
  · simp [Value.cells] at hcs
    obtain ⟨rfl, rfl, rfl⟩ := hcs
    simp only [if_true] at hmm
    refine ⟨some a, len, cap, rfl, by unfold maxLen at hm; omega, fun k hk => ?_⟩
    obtain ⟨ys, n, _, _, _, hF⟩ := hi k (by omega)
    obtain ⟨v0, y0, h0, _, t0⟩ := hF 0 _ rfl
    obtain ⟨v1, y1, h1, _, t1⟩ := hF 1 _ rfl
    obtain ⟨v2, y2, h2, _, t2⟩ := hF 2 _ rfl
    obtain ⟨kd, e0, _, _⟩ := DataW.trod_int Try.underlying3 t0
    obtain ⟨ii, e1, _, _⟩ := DataW.trod_int Try.underlying3 t1
    obtain ⟨DA, dc, dd, rfl, hr, hkl, _⟩ := trod_bytes t2
    injection e0 with e0
    injection e1 with e1
    subst e0 e1
    have hlt := World.block_lt_of_cell? w _ h0
    rw [block_of_add] at hlt
    obtain ⟨b, o, s⟩ := a
    have hs : s = none := by
      obtain ⟨_, _, _, _, _, hF0⟩ := hi 0 (by omega)
      obtain ⟨_, _, h0', _, _⟩ := hF0 0 _ rfl
      cases s with
      | none => rfl
      | some s =>
        simp only [Addr.add, Nat.zero_mul, Nat.zero_add, if_true] at h0'
        unfold World.cell? at h0'
        split at h0'
        · simp at h0'
        · cases h0'
    subst hs
    rw [Addr.add_lit] at h0 h1 h2
    simp only [List.size_toArray, List.length_cons, List.length_nil] at h0 h1 h2
    simp only [← Nat.add_assoc] at h1 h2
    exact ⟨b, o, kd, ii, DA, dc, dd, rfl, hlt, h0, h1, h2, hr⟩
end
/-! ### what a step makes of a page -/
section
variable {m : MPage}
theorem put_out (h : Valid m) (d : List UInt8) (he : (putB m.bytes d).1 = 0) : ∃ m', Valid m' ∧ obytes (putB m.bytes d).2.2 = m'.bytes := by
  rcases put_cases h d with ⟨e, he', hpe, _⟩ | ⟨hpe, hv, _, _⟩
  · rw [hpe] at he; exact absurd he he'
  · rw [hpe]; exact ⟨_, hv, rfl⟩
theorem set_out (h : Valid m) (i : Int) (d : List UInt8) (he : (setB m.bytes i d).1 = 0) : ∃ m', Valid m' ∧ obytes (setB m.bytes i d).2 = m'.bytes := by
  have hp : setB m.bytes i d = setP m i d := by rw [setB, h.pg]
  rw [hp] at he ⊢
  unfold setP at he ⊢
  by_cases h1 : 480 < d.length
  · rw [if_pos h1] at he; cases he
  · rw [if_neg h1] at he ⊢
    by_cases h2 : m.has i = true
    · rw [if_pos h2] at he ⊢
      by_cases h3 : 498 < 4 * m.l.length + sum (m.l.set i.toNat (some d))
      · rw [if_pos h3] at he; cases he
      · rw [if_neg h3]
        have hg := good_set (k := i.toNat) h (d := d) (by omega) (by omega)
        have ht := trim_set h.tr i.toNat d
        exact ⟨⟨m.next, m.l.set i.toNat (some d)⟩, ⟨ht, by have h : Fits (trim (m.l.set i.toNat (some d))) := hg.fits; rw [ht] at h; exact h, h.n1, h.n2⟩, rfl⟩
    · rw [if_neg h2] at he; cases he
theorem del_out (h : Valid m) (i : Int) (he : delE m.bytes i = 0) : ∃ m', Valid m' ∧ delO m.bytes i = m'.bytes := by
  unfold delE at he
  unfold delO
  rw [h.pg, h.pgD] at he ⊢
  by_cases h2 : m.has i = true
  · rw [h2]
    simp only [Option.isSome_some, Bool.and_self, if_true]
    exact ⟨⟨m.next, trim (m.l.set i.toNat none)⟩, (good_set_none h i.toNat).trimmed, (trim_bytes ⟨m.next, m.l.set i.toNat none⟩).symm⟩
  · simp only [Option.isSome_some, if_true, if_neg h2] at he
    cases he
theorem next_out (h : Valid m) (n : Int) : ∃ m', Valid m' ∧ setNextB m.bytes n = m'.bytes := by
  rw [setNext_valid h]
  by_cases hg : 0 ≤ n ∧ n ≤ 4294967295
  · rw [if_pos hg]; exact ⟨_, (slots_next h n hg.1 (by omega)).1, rfl⟩
  · rw [if_neg hg]; exact ⟨m, h, rfl⟩
end
end Go.Proofs.Ytpdikmkhkiplbaa
