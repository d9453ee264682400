/- Records and bytes as arguments, and their bulk. No conditions. -/
import Derived.Test.YtkpopjpmjcgbfaaBad
import Derived.Test.YtkpopjpmjcgbfaaLaw
import Derived.Deep.Fields
import Derived.ChangeSame
namespace Go.Proofs.Ytkpopjpmjcgbfaa
open Go.ChangeShapes Go.WideShapes Go.ChangeAt Go.RowKit Go.Deep
set_option linter.unusedVariables false

section
variable {H : Type} {enc : TypeId × Value → H} {P : Program} {w : World} {base : Nat} {spare : Nat → Bool} {held : Bool}
theorem open_slice_fields {t e : TypeId} {fs : Array Field} {fuel : Nat} {cs : List Value} {x : DataW H × List MemPlace} (ht : P.underlying t = some (.slice e)) (he : P.underlying e = some (.struct fs))
    (hone : oneCellFields P fs = true) (hC : P.cellsOf e = fs.size) (h : DataW.trod enc P w base spare held fuel t cs = some x) :
    (cs = [.slice none 0 0] ∧ x = (.nil, [])) ∨
    ∃ (a : Addr) (len cap m : Nat) (D : Nat → DataW H) (Pl : Nat → List MemPlace), cs = [.slice (some a) len cap] ∧ base ≤ a.block ∧ len ≤ cap ∧ cap ≤ maxLen ∧ m = (if spare a.block then cap else len) ∧
      x = (.slice ((List.range len).map D) ((List.range (m - len)).map fun j => D (len + j)), MemPlace.row a (m * fs.size) ++ (List.range m).flatMap Pl) ∧
      ∀ i, i < m → ∃ (ys : List (DataW H × List MemPlace)) (n : Nat), D i = .agg (ys.map (·.1)) ∧ Pl i = ys.flatMap (·.2) ∧ ys.length = fs.size ∧
        ∀ (j : Nat) (f : Field), fs[j]? = some f → ∃ (v : Value) (y : DataW H × List MemPlace), w.cell? (a.add (i * fs.size + j)) = some v ∧ ys[j]? = some y ∧ DataW.trod enc P w base spare held n f.type [v] = some y := by
  rcases open_slice ht h with h0 | ⟨a, len, cap, m, n, D, Pl, hcs, hb, hl, hm, hmm, hx, hi⟩
  · exact .inl h0
  · refine .inr ⟨a, len, cap, m, D, Pl, hcs, hb, hl, hm, hmm, by rw [hC] at hx; exact hx, fun i him => ?_⟩
    obtain ⟨cs', hc, ht'⟩ := hi i him
    rw [hC] at hc
    obtain ⟨ys, n', hn', hy, hlen, hyl, hf⟩ := DataW.trod_struct he ht'
    obtain ⟨_, hcl, hat⟩ := World.cells?_some hc
    simp only [Prod.mk.injEq] at hy
    refine ⟨ys, n', hy.1, hy.2, hyl, fun j f hj => ?_⟩
    obtain ⟨ho, hk⟩ := hone_of hone j f hj
    have hjl : j < fs.size := (Array.getElem?_eq_some_iff.1 hj).1
    have hcell := hat j hjl
    have hv : cs'[j]? = some (cs'[j]'(by omega)) := List.getElem?_eq_getElem (by omega)
    have h1 := hf j f hj
    rw [ho, hk] at h1
    have hone' : (cs'.drop j).take 1 = [cs'[j]'(by omega)] := by
      rw [List.drop_eq_getElem_cons (by omega)]
      rfl
    rw [hone'] at h1
    have hys : ys[j]? = some (ys[j]'(by omega)) := List.getElem?_eq_getElem (by omega)
    refine ⟨_, _, ?_, hys, h1.trans hys⟩
    rw [← Go.Deep.add_add, hcell, hv]
theorem open_struct_fields {t : TypeId} {fs : Array Field} {fuel : Nat} {cs : List Value} {x : DataW H × List MemPlace} (he : P.underlying t = some (.struct fs)) (hone : oneCellFields P fs = true) (hC : P.cellsOf t = fs.size)
    (h : DataW.trod enc P w base spare held fuel t cs = some x) :
    ∃ (ys : List (DataW H × List MemPlace)) (n : Nat), x = (.agg (ys.map (·.1)), ys.flatMap (·.2)) ∧ cs.length = fs.size ∧ ys.length = fs.size ∧
      ∀ (j : Nat) (f : Field), fs[j]? = some f → ∃ (v : Value) (y : DataW H × List MemPlace), cs[j]? = some v ∧ ys[j]? = some y ∧ DataW.trod enc P w base spare held n f.type [v] = some y := by
  obtain ⟨ys, n', hn', hy, hlen, hyl, hf⟩ := DataW.trod_struct he h
  rw [hC] at hlen
  refine ⟨ys, n', hy, hlen, hyl, fun j f hj => ?_⟩
  obtain ⟨ho, hk⟩ := hone_of hone j f hj
  have hjl : j < fs.size := (Array.getElem?_eq_some_iff.1 hj).1
  have hv : cs[j]? = some (cs[j]'(by omega)) := List.getElem?_eq_getElem (by omega)
  have h1 := hf j f hj
  rw [ho, hk] at h1
  have hone' : (cs.drop j).take 1 = [cs[j]'(by omega)] := by
    rw [List.drop_eq_getElem_cons (by omega)]
    rfl
  rw [hone'] at h1
  have hys : ys[j]? = some (ys[j]'(by omega)) := List.getElem?_eq_getElem (by omega)
  exact ⟨_, _, hv, hys, h1.trans hys⟩

/-! ### bulk -/
theorem bulk_pos (d : DataW H) : 1 ≤ Rows.uptoBulk d ∨ Rows.uptoBulk d = 0 := by omega
theorem bulk_one {H : Type} (d : DataW H) : 1 ≤ Rows.uptoBulk d := by
  cases d with
  | lit l => cases l <;> simp [Rows.uptoBulk]
  | _ => simp [Rows.uptoBulk]
theorem bulk_length {H : Type} (l : List (DataW H)) : l.length ≤ Rows.uptoBulkAll l := by
  induction l with
  | nil => simp [Rows.uptoBulkAll]
  | cons d l ih => have := bulk_one d; simp only [Rows.uptoBulkAll, List.length_cons]; omega
theorem bulk_slice {H : Type} (a b : List (DataW H)) : a.length ≤ Rows.uptoBulk (.slice a b) := by
  have := bulk_length a
  simp only [Rows.uptoBulk]
  omega

theorem u8_of {z : Int} (h : (Lit.int .u8 z).wf = true) : ∃ b : UInt8, z = (b.toNat : Int) := by
  have h' := (by simpa [Lit.wf, IntKind.min, IntKind.max, IntKind.signed, IntKind.bits] using h : 0 ≤ z ∧ z ≤ 255)
  refine ⟨UInt8.ofNat z.toNat, ?_⟩
  rw [UInt8.toNat_ofNat']
  omega

theorem trod_bytes {w : World} {fuel : Nat} {v : Value} {y : DataW H × List MemPlace} (hf : DataW.trod enc Try.prog w 0 (fun _ => true) true fuel 23 [v] = some y) :
    ∃ A c bs, v = .slice A bs.length c ∧ Rd w 1 A bs.length (u8s bs) ∧ bs.length ≤ c ∧ bs.length ≤ Rows.uptoBulk y.1 ∧ (0 < c → ∀ ad, A = some ad → ad.block < w.heap.size) := by
  rcases open_slice1 Try.underlying23 (by kernel_rfl) hf with ⟨hcs, hx⟩ | ⟨a, len', cap', m, n, V, D, Pl, hcs, _, hl, hm, hmm, hx, hcell⟩
  · injection hcs with hcs
    subst hcs
    exact ⟨none, 0, [], rfl, Rd.none_, by simp, by simp, fun h => absurd h (by omega)⟩
  · injection hcs with hcs
    subst hcs
    simp only [if_true] at hmm
    have hb : ∀ i, i < m → ∃ b : UInt8, V i = .int .u8 (b.toNat : Int) := fun i hi => by
      obtain ⟨z, hz, _, hw⟩ := DataW.trod_int Try.underlying5 (hcell i hi).2
      injection hz with hz _
      obtain ⟨b, rfl⟩ := u8_of hw
      exact ⟨b, hz⟩
    let bo : Nat → UInt8 := fun i => match V i with | .int _ z => UInt8.ofNat z.toNat | _ => 0
    have hbo : ∀ i, i < m → V i = .int .u8 ((bo i).toNat : Int) := fun i hi => by
      obtain ⟨b, e⟩ := hb i hi
      have : bo i = b := by simp [bo, e]
      rw [this, e]
    have hlt : 0 < cap' → a.block < w.heap.size := fun h => by
      have := World.block_lt_of_cell? w _ (hcell 0 (by omega)).1
      rwa [block_of_add] at this
    refine ⟨some a, cap', (List.range len').map bo, by simp, ⟨by simp [u8s], fun hn => ⟨a, rfl, hlt (by simp at hn; omega), fun j u hu => ?_⟩⟩, by simpa using hl, ?_, fun h ad e => by injection e with e; subst e; exact hlt h⟩
    · have hj : j < len' := by have := (List.getElem?_eq_some_iff.1 hu).1; simp [u8s] at this; omega
      rw [(hcell j (by omega)).1, hbo j (by omega), ← hu]
      simp [u8s, hj]
    · rw [hx]
      have := bulk_slice ((List.range len').map D) ((List.range (m - len')).map fun j => D (len' + j))
      simpa using this

theorem length_txV (l : List (Int × Int × Int)) : (txV l).length = l.length * 3 := by
  induction l with
  | nil => rfl
  | cons a l ih => rw [show txV (a :: l) = [Value.int .i64 a.1, .int .i64 a.2.1, .int .i64 a.2.2] ++ txV l from rfl, List.length_append, ih]; simp; omega
theorem length_diV (l : List (Int × Int)) : (diV l).length = l.length * 2 := by
  induction l with
  | nil => rfl
  | cons a l ih => rw [show diV (a :: l) = [Value.int .i64 a.1, .int .i64 a.2] ++ diV l from rfl, List.length_append, ih]; simp; omega
theorem trod_txns {w : World} {fuel : Nat} {v : Value} {y : DataW H × List MemPlace} (hf : DataW.trod enc Try.prog w 0 (fun _ => true) true fuel 25 [v] = some y) :
    ∃ A c l, v = .slice A l.length c ∧ Rd w 3 A l.length (txV l) ∧ l.length ≤ c ∧ l.length ≤ Rows.uptoBulk y.1 := by
  rcases open_slice_fields Try.underlying25 Try.underlying43 (by kernel_rfl) (by kernel_rfl) hf with ⟨hcs, hx⟩ | ⟨a, len', cap', m, D, Pl, hcs, _, hl, hm, hmm, hx, hi⟩
  · injection hcs with hcs
    subst hcs
    exact ⟨none, 0, [], rfl, ⟨rfl, fun h => absurd h (by simp)⟩, by simp, by simp⟩
  · injection hcs with hcs
    subst hcs
    simp only [if_true] at hmm
    have hb : ∀ i, i < m → ∃ t : Int × Int × Int, w.cell? (a.add (i * 3 + 0)) = some (.int .i64 t.1) ∧ w.cell? (a.add (i * 3 + 1)) = some (.int .i64 t.2.1) ∧ w.cell? (a.add (i * 3 + 2)) = some (.int .i64 t.2.2) := fun i him => by
      obtain ⟨ys, n, _, _, _, hF⟩ := hi i him
      obtain ⟨v0, y0, h0, _, t0⟩ := hF 0 _ rfl
      obtain ⟨v1, y1, h1, _, t1⟩ := hF 1 _ rfl
      obtain ⟨v2, y2, h2, _, t2⟩ := hF 2 _ rfl
      obtain ⟨z0, e0, _, _⟩ := DataW.trod_int Try.underlying3 t0
      obtain ⟨z1, e1, _, _⟩ := DataW.trod_int Try.underlying3 t1
      obtain ⟨z2, e2, _, _⟩ := DataW.trod_int Try.underlying3 t2
      injection e0 with e0
      injection e1 with e1
      injection e2 with e2
      subst e0 e1 e2
      exact ⟨(z0, z1, z2), h0, h1, h2⟩
    obtain ⟨T, hT⟩ := choose_lt (α := Int × Int × Int) hb
    refine ⟨some a, cap', (List.range len').map T, by simp, ⟨by rw [length_txV], fun hn => ⟨a, rfl, ?_, fun j u hu => ?_⟩⟩, by simpa using hl, ?_⟩
    · have := World.block_lt_of_cell? w _ (hT 0 (by simp at hn; omega)).1
      rwa [block_of_add] at this
    · have hjl : j < len' * 3 := by have := (List.getElem?_eq_some_iff.1 hu).1; rw [length_txV] at this; simpa using this
      obtain ⟨q, i, hi3, rfl⟩ : ∃ q i, i < 3 ∧ j = q * 3 + i := ⟨j / 3, j % 3, by omega, by omega⟩
      have hq : q < len' := by omega
      have hlk := flat_at (fun t : Int × Int × Int => [Value.int .i64 t.1, .int .i64 t.2.1, .int .i64 t.2.2]) 3 (fun _ => rfl) ((List.range len').map T) q i (by simpa using hq) hi3
      have hu' := hlk.symm.trans hu
      simp only [List.getElem_map, List.getElem_range] at hu'
      obtain ⟨c0, c1, c2⟩ := hT q (by omega)
      obtain rfl | rfl | rfl : i = 0 ∨ i = 1 ∨ i = 2 := by omega
      · simp at hu'; subst hu'; exact c0
      · simp at hu'; subst hu'; exact c1
      · simp at hu'; subst hu'; exact c2
    · rw [hx]
      have := bulk_slice ((List.range len').map D) ((List.range (m - len')).map fun j => D (len' + j))
      simpa using this

theorem trod_dirs {w : World} {fuel : Nat} {v : Value} {y : DataW H × List MemPlace} (hf : DataW.trod enc Try.prog w 0 (fun _ => true) true fuel 26 [v] = some y) :
    ∃ A c l, v = .slice A l.length c ∧ Rd w 2 A l.length (diV l) ∧ l.length ≤ c ∧ l.length ≤ Rows.uptoBulk y.1 := by
  rcases open_slice_fields Try.underlying26 Try.underlying45 (by kernel_rfl) (by kernel_rfl) hf with ⟨hcs, hx⟩ | ⟨a, len', cap', m, D, Pl, hcs, _, hl, hm, hmm, hx, hi⟩
  · injection hcs with hcs
    subst hcs
    exact ⟨none, 0, [], rfl, ⟨rfl, fun h => absurd h (by simp)⟩, by simp, by simp⟩
  · injection hcs with hcs
    subst hcs
    simp only [if_true] at hmm
    have hb : ∀ i, i < m → ∃ t : Int × Int, w.cell? (a.add (i * 2 + 0)) = some (.int .i64 t.1) ∧ w.cell? (a.add (i * 2 + 1)) = some (.int .i64 t.2) := fun i him => by
      obtain ⟨ys, n, _, _, _, hF⟩ := hi i him
      obtain ⟨v0, y0, h0, _, t0⟩ := hF 0 _ rfl
      obtain ⟨v1, y1, h1, _, t1⟩ := hF 1 _ rfl
      obtain ⟨z0, e0, _, _⟩ := DataW.trod_int Try.underlying3 t0
      obtain ⟨z1, e1, _, _⟩ := DataW.trod_int Try.underlying3 t1
      injection e0 with e0
      injection e1 with e1
      subst e0 e1
      exact ⟨(z0, z1), h0, h1⟩
    obtain ⟨T, hT⟩ := choose_lt (α := Int × Int) hb
    refine ⟨some a, cap', (List.range len').map T, by simp, ⟨by rw [length_diV], fun hn => ⟨a, rfl, ?_, fun j u hu => ?_⟩⟩, by simpa using hl, ?_⟩
    · have := World.block_lt_of_cell? w _ (hT 0 (by simp at hn; omega)).1
      rwa [block_of_add] at this
    · have hjl : j < len' * 2 := by have := (List.getElem?_eq_some_iff.1 hu).1; rw [length_diV] at this; simpa using this
      obtain ⟨q, i, hi3, rfl⟩ : ∃ q i, i < 2 ∧ j = q * 2 + i := ⟨j / 2, j % 2, by omega, by omega⟩
      have hq : q < len' := by omega
      have hlk := flat_at (fun t : Int × Int => [Value.int .i64 t.1, .int .i64 t.2]) 2 (fun _ => rfl) ((List.range len').map T) q i (by simpa using hq) hi3
      have hu' := hlk.symm.trans hu
      simp only [List.getElem_map, List.getElem_range] at hu'
      obtain ⟨c0, c1⟩ := hT q (by omega)
      obtain rfl | rfl : i = 0 ∨ i = 1 := by omega
      · simp at hu'; subst hu'; exact c0
      · simp at hu'; subst hu'; exact c1
    · rw [hx]
      have := bulk_slice ((List.range len').map D) ((List.range (m - len')).map fun j => D (len' + j))
      simpa using this

/-- the eleven fields of a record, wherever they are taken from -/
theorem rec_of_fields {w : World} {get : Nat → Option Value} {ys : List (DataW H × List MemPlace)} {n : Nat} {fs : Array Field} (hfs : Try.prog.underlying 28 = some (.struct fs)) (hyl : ys.length = 11)
    (hF : ∀ (j : Nat) (f : Field), fs[j]? = some f → ∃ (v : Value) (y : DataW H × List MemPlace), get j = some v ∧ ys[j]? = some y ∧ DataW.trod enc Try.prog w 0 (fun _ => true) true n f.type [v] = some y) :
    ∃ r BA bc AA ac TA tc DA dc, (∀ j, j < 11 → get j = (recCells r BA bc AA ac TA tc DA dc)[j]?) ∧ RecMem w r BA AA TA DA ∧ r.before.length + r.after.length + r.txns.length + r.dirty.length ≤ Rows.uptoBulkAll (ys.map (·.1)) := by
  have hu := Try.underlying28
  rw [hu] at hfs
  injection hfs with hfs
  injection hfs with hfs
  subst hfs
  obtain ⟨v0, y0, g0, k0, t0⟩ := hF 0 _ rfl
  obtain ⟨v1, y1, g1, k1, t1⟩ := hF 1 _ rfl
  obtain ⟨v2, y2, g2, k2, t2⟩ := hF 2 _ rfl
  obtain ⟨v3, y3, g3, k3, t3⟩ := hF 3 _ rfl
  obtain ⟨v4, y4, g4, k4, t4⟩ := hF 4 _ rfl
  obtain ⟨v5, y5, g5, k5, t5⟩ := hF 5 _ rfl
  obtain ⟨v6, y6, g6, k6, t6⟩ := hF 6 _ rfl
  obtain ⟨v7, y7, g7, k7, t7⟩ := hF 7 _ rfl
  obtain ⟨v8, y8, g8, k8, t8⟩ := hF 8 _ rfl
  obtain ⟨v9, y9, g9, k9, t9⟩ := hF 9 _ rfl
  obtain ⟨v10, y10, g10, k10, t10⟩ := hF 10 _ rfl
  obtain ⟨z0, e0, _, _⟩ := DataW.trod_int Try.underlying3 t0
  obtain ⟨z1, e1, _, _⟩ := DataW.trod_int Try.underlying3 t1
  obtain ⟨z2, e2, _, _⟩ := DataW.trod_int Try.underlying3 t2
  obtain ⟨z3, e3, _, _⟩ := DataW.trod_int Try.underlying3 t3
  obtain ⟨z4, e4, _, _⟩ := DataW.trod_int Try.underlying3 t4
  obtain ⟨z5, e5, _, _⟩ := DataW.trod_int Try.underlying3 t5
  obtain ⟨BA, bc, bb, rfl, rb, _, lb, _⟩ := trod_bytes t6
  obtain ⟨AA, ac, ba, rfl, ra, _, la, _⟩ := trod_bytes t7
  obtain ⟨TA, tc, lt, rfl, rt, _, ll⟩ := trod_txns t8
  obtain ⟨DA, dc, ld, rfl, rd, _, lm⟩ := trod_dirs t9
  obtain ⟨z10, e10, _, _⟩ := DataW.trod_int Try.underlying3 t10
  injection e0 with e0
  injection e1 with e1
  injection e2 with e2
  injection e3 with e3
  injection e4 with e4
  injection e5 with e5
  injection e10 with e10
  subst e0 e1 e2 e3 e4 e5 e10
  refine ⟨⟨z0, z1, z2, z3, z4, z5, bb, ba, lt, ld, z10⟩, BA, bc, AA, ac, TA, tc, DA, dc, fun j hj => ?_, ⟨rb, ra, rt, rd⟩, ?_⟩
  · obtain rfl | rfl | rfl | rfl | rfl | rfl | rfl | rfl | rfl | rfl | rfl : j = 0 ∨ j = 1 ∨ j = 2 ∨ j = 3 ∨ j = 4 ∨ j = 5 ∨ j = 6 ∨ j = 7 ∨ j = 8 ∨ j = 9 ∨ j = 10 := by omega
    all_goals (first | exact g0 | exact g1 | exact g2 | exact g3 | exact g4 | exact g5 | exact g6 | exact g7 | exact g8 | exact g9 | exact g10)
  · have hy : ys = [ys[0], ys[1], ys[2], ys[3], ys[4], ys[5], ys[6], ys[7], ys[8], ys[9], ys[10]] := by
      apply List.ext_getElem
      · simpa using hyl
      · intro i h1 h2
        obtain rfl | rfl | rfl | rfl | rfl | rfl | rfl | rfl | rfl | rfl | rfl : i = 0 ∨ i = 1 ∨ i = 2 ∨ i = 3 ∨ i = 4 ∨ i = 5 ∨ i = 6 ∨ i = 7 ∨ i = 8 ∨ i = 9 ∨ i = 10 := by omega
        all_goals rfl
    have j6 : ys[6] = y6 := by have := (List.getElem?_eq_some_iff.1 k6).2; exact this
    have j7 : ys[7] = y7 := by have := (List.getElem?_eq_some_iff.1 k7).2; exact this
    have j8 : ys[8] = y8 := by have := (List.getElem?_eq_some_iff.1 k8).2; exact this
    have j9 : ys[9] = y9 := by have := (List.getElem?_eq_some_iff.1 k9).2; exact this
    rw [hy, j6, j7, j8, j9]
    simp only [List.map_cons, List.map_nil, Rows.uptoBulkAll]
    omega

/-- a record as an argument -/
theorem arg_rec {w : World} {j : Nat} {v : Value} {d : DataW H} {p : List MemPlace} (hv : Value.okWide Try.prog w .any j 28 v) (h : DataW.Trod enc Try.prog w 0 (fun _ => true) true 28 v d p) :
    ∃ r BA bc AA ac TA tc DA dc, v = recVal r BA bc AA ac TA tc DA dc ∧ RecMem w r BA AA TA DA ∧ r.before.length + r.after.length + r.txns.length + r.dirty.length ≤ Rows.uptoBulk d := by
  obtain ⟨cs, rfl, hcs⟩ := okWide_struct Try.underlying28 hv
  obtain ⟨fuel, hf⟩ := h
  obtain ⟨ys, n, hx, hl, hyl, hF⟩ := open_struct_fields Try.underlying28 (by kernel_rfl) (by kernel_rfl) hf
  simp only [Prod.mk.injEq] at hx
  obtain ⟨r, BA, bc, AA, ac, TA, tc, DA, dc, hg, hm, hb⟩ := rec_of_fields (get := fun j => (Value.agg cs).cells.toList[j]?) Try.underlying28 hyl hF
  refine ⟨r, BA, bc, AA, ac, TA, tc, DA, dc, ?_, hm, ?_⟩
  · have e : cs = recCells r BA bc AA ac TA tc DA dc := by
      have hl' : cs.size = 11 := by simpa [Value.cells] using hl
      apply Array.ext
      · rw [hl']; rfl
      · intro i h1 h2
        have := hg i (by omega)
        simp only [Value.cells, Array.getElem?_toList] at this
        rw [Array.getElem?_eq_getElem h1, Array.getElem?_eq_getElem h2] at this
        injection this
    rw [e]; rfl
  · rw [hx.1]
    simp only [Rows.uptoBulk]
    omega
/-- bytes as an argument -/
theorem arg_bytes {w : World} {j : Nat} {v : Value} {d : DataW H} {p : List MemPlace} (hv : Value.okWide Try.prog w .any j 23 v) (h : DataW.Trod enc Try.prog w 0 (fun _ => true) true 23 v d p) :
    ∃ A c bs, v = .slice A bs.length c ∧ Rd w 1 A bs.length (u8s bs) ∧ bs.length ≤ c ∧ bs.length ≤ Rows.uptoBulk d ∧ (0 < c → ∀ ad, A = some ad → ad.block < w.heap.size) := by
  obtain ⟨a0, len, cap, rfl⟩ := okWide_slice Try.underlying23 hv
  obtain ⟨fuel, hf⟩ := h
  exact trod_bytes hf
end
end Go.Proofs.Ytkpopjpmjcgbfaa
