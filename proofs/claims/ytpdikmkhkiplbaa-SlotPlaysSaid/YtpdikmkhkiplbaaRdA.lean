/- The walk of slot.read. Conditions: none but what a slice is. -/
import Derived.Test.YtpdikmkhkiplbaaByt
import Derived.Test.YtpdikmkhkiplbaaRdp
import Derived.BigRegion
namespace Go.Proofs.Ytpdikmkhkiplbaa
open Go.RowKit
set_option maxRecDepth 100000
set_option linter.unusedVariables false
set_option linter.unusedSimpArgs false

/-- bytes are a page's -/
def Is (bs : List UInt8) (q : MPage) : Prop := Valid q ∧ q.bytes = bs
theorem Is.uniq {bs : List UInt8} {q q' : MPage} (h : Is bs q) (h' : Is bs q') : q = q' := bytes_inj h.1 h'.1 (h.2.trans h'.2.symm)

theorem results_cell2 {P : Program} {fn : Func} {p u : Tmp} {ty : TypeId} (h : fn.results = #[.cell p ty, .tmp u]) (tmps : Array Value) (w : World) (g : Nat) (t : TypeId) (cs : Array Value) (d : TypeDesc)
    (hp : tmps.getD p undef = .pointer (some ⟨g, 0, none⟩)) (hg : Blk w g t cs)
    (hu : P.underlying ty = some d) (hd : (match d with | .struct _ | .array _ _ => true | _ => false) = true) (hi : (P.info? ty).map (·.size) = some cs.size) :
    (results fn tmps).run P w = .ok (.tuple #[.agg cs, tmps.getD u undef]) w := by
  have hp' : tmps[p]?.getD undef = .pointer (some ⟨g, 0, none⟩) := by simpa using hp
  simp [results, h, hp', asAddr, run_loadVar_row w g t ty cs (0, 0) d hg hu hd hi]
theorem blk_store2 {w : World} {g : Nat} {t : TypeId} {a0 a1 : Value} (b0 b1 : Value) (h : Blk w g t #[a0, a1]) : Blk ((w.setCell ⟨g, 0, none⟩ b0).setCell ⟨g, 1, none⟩ b1) g t #[b0, b1] := by
  have := ((h.set_ 0 b0).set_ 1 b1)
  simpa using this

theorem blk2 {w : World} {g : Nat} {t : TypeId} {a0 a1 : Value} (h : Blk w g t #[a0, a1]) : w.cell? ⟨g, 0, none⟩ = some a0 ∧ w.cell? ⟨g, 1, none⟩ = some a1 ∧ ∀ i, w.frozen? ⟨g, i, none⟩ = false :=
  ⟨h.cell_ 0 rfl, h.cell_ 1 rfl, fun i => h.frozen i⟩

/-- what read tells -/
def ReadPost (bs : List UInt8) (w : World) (e : Ending) (w' : World) : Prop :=
  Below w.heap.size w w' ∧ ((∃ q lv, Is bs q ∧ e = .returned (.tuple #[.agg #[.int .i64 q.next, lv], .bool true]) ∧ RowAt w.heap.size w' lv q.l) ∨ ((∀ q, ¬ Is bs q) ∧ e = .returned (.tuple #[.agg #[.int .i64 0, .slice none 0 0], .bool false])))

theorem u8s_at (bs : List UInt8) (j : Nat) (h : j < bs.length) : (u8s bs)[j]? = some (.int .u8 (((bs.getD j 0).toNat : Nat) : Int)) := by
  simp [u8s, h]


theorem below_store2 {B g : Nat} {w wr : World} (h : Below B w wr) (hB : B ≤ w.heap.size) (hg : B ≤ g) (u v : Value) : Below B w ((wr.setCell ⟨g, 0, none⟩ u).setCell ⟨g, 1, none⟩ v) :=
  h.trans ((chg_set2 g 0 1 u v).below (by have := h.size; omega) (fun i hi => by rw [hi]; exact hg))
theorem or2 (a b : Nat) (ha : a < 256) (hb : b < 256) : bits .or .i64 ((a : Int) * 256) (b : Int) = ((256 * a + b : Nat) : Int) := by
  have h1 : (BitVec.ofInt 64 ((a * 256 : Nat) : Int)).toNat = a * 256 := by rw [BitVec.ofInt_natCast, BitVec.toNat_ofNat]; exact Nat.mod_eq_of_lt (by omega)
  have h2 : (BitVec.ofInt 64 (b : Int)).toNat = b := by rw [BitVec.ofInt_natCast, BitVec.toNat_ofNat]; exact Nat.mod_eq_of_lt (by omega)
  have h3 : a * 256 ||| b = a * 256 + b := nat_join 8 (a * 256) b (by omega) (by omega)
  have e : (a : Int) * 256 = ((a * 256 : Nat) : Int) := by omega
  rw [e]
  show IntKind.i64.wrap ((BitVec.ofInt 64 ((a * 256 : Nat) : Int) ||| BitVec.ofInt 64 (b : Int)).toNat : Int) = _
  rw [BitVec.toNat_or, h1, h2, h3, IntKind.wrap_i64]
  omega

theorem sl_lit {b o n c : Nat} (k : Nat) (i : Int) (hi : i = (k : Int)) (hk : k < n) (hc : n ≤ c) (W : World) : (Instr.slice 23 (.slice (some ⟨b, o, none⟩) n c) (some (.int .i64 i)) none none).run Try.prog W = .ok (.slice (some ⟨b, o + k, none⟩) (n - k) (c - k)) W := by
  subst hi
  obtain ⟨i0, hi, hz0, hz1, hz2⟩ := info_parts info5
  have hk' : (k : Int) ≤ (n : Int) := by omega
  simp [Instr.slice, Instr.sliceBounds, Instr.sliceBound, asIntOf, run_underlying Try.underlying23, sizeOf, typeInfo, hi, hz1, hk', Addr.add]
  rw [if_pos (show k ≤ n by omega), if_neg (show ¬ c = k by omega)]
  by_cases h0 : k = 0
  · subst h0; simp
  · rw [if_neg h0]
theorem sl_two {b o n c : Nat} {w : World} {xs : List Value} (hr : Rd w 1 (some ⟨b, o, none⟩) n xs) (k m : Nat) (i j : Int) (hi : i = (k : Int)) (hj : j = (m : Int)) (hk : k ≤ m) (hm : m ≤ n) (hc : n ≤ c) :
    ∃ A', (∀ W : World, (Instr.slice 23 (.slice (some ⟨b, o, none⟩) n c) (some (.int .i64 i)) (some (.int .i64 j)) none).run Try.prog W = .ok (.slice A' (m - k) (c - k)) W) ∧ Rd w 1 A' (m - k) ((xs.drop k).take (m - k)) := by
  subst hi
  subst hj
  obtain ⟨i0, hi, hz0, hz1, hz2⟩ := info_parts info5
  have hl := hr.1
  refine ⟨if c = k then some ⟨b, o, none⟩ else some (Addr.add ⟨b, o, none⟩ k), fun W => ?_, ?_, fun hn => ?_⟩
  · have hk' : (k : Int) ≤ (m : Int) := by omega
    have hm' : (m : Int) ≤ (c : Int) := by omega
    simp [Instr.slice, Instr.sliceBounds, Instr.sliceBound, asIntOf, run_underlying Try.underlying23, sizeOf, typeInfo, hi, hz1, hk', hm']
    rw [if_pos (show m ≤ c by omega), if_pos hk]
  · simp; omega
  · obtain ⟨ad, e, hlt, hcs⟩ := hr.2 (by omega)
    injection e with e
    subst e
    rw [if_neg (by omega)]
    refine ⟨_, rfl, by rw [block_of_add]; exact hlt, fun j u hu => ?_⟩
    rw [add_of_add]
    refine hcs _ u ?_
    rw [List.getElem?_take] at hu
    split at hu
    · simpa using hu
    · cases hu
theorem or4 (a b c d : Nat) (ha : a < 256) (hb : b < 256) (hc : c < 256) (hd : d < 256) : bits .or .i64 (bits .or .i64 (bits .or .i64 ((a : Int) * 16777216) ((b : Int) * 65536)) ((c : Int) * 256)) (d : Int) = ((16777216 * a + 65536 * b + 256 * c + d : Nat) : Int) := by
  have hj : ∀ (x y k : Nat), x < 4294967296 → y < 2 ^ k → k < 32 → x % 2 ^ k = 0 → bits .or .i64 (x : Int) (y : Int) = ((x + y : Nat) : Int) := by
    intro x y k hx hy hk hm
    have hk2 : 2 ^ k ≤ 4294967296 := Nat.le_trans (Nat.pow_le_pow_right (by omega) (show k ≤ 32 by omega)) (by decide)
    have h1 : (BitVec.ofInt 64 (x : Int)).toNat = x := by rw [BitVec.ofInt_natCast, BitVec.toNat_ofNat]; exact Nat.mod_eq_of_lt (by omega)
    have h2 : (BitVec.ofInt 64 (y : Int)).toNat = y := by rw [BitVec.ofInt_natCast, BitVec.toNat_ofNat]; exact Nat.mod_eq_of_lt (by omega)
    have h3 : x ||| y = x + y := nat_join k x y hm hy
    show IntKind.i64.wrap ((BitVec.ofInt 64 (x : Int) ||| BitVec.ofInt 64 (y : Int)).toNat : Int) = _
    rw [BitVec.toNat_or, h1, h2, h3, IntKind.wrap_i64]
    omega
  rw [show (a : Int) * 16777216 = ((16777216 * a : Nat) : Int) by omega, show (b : Int) * 65536 = ((65536 * b : Nat) : Int) by omega, show (c : Int) * 256 = ((256 * c : Nat) : Int) by omega]
  rw [hj (16777216 * a) (65536 * b) 24 (by omega) (by omega) (by omega) (by omega), hj (16777216 * a + 65536 * b) (256 * c) 16 (by omega) (by omega) (by omega) (by omega), hj (16777216 * a + 65536 * b + 256 * c) d 8 (by omega) (by omega) (by omega) (by omega)]

theorem RowAt.push {B : Nat} {w w' : World} {lv lv' v : Value} {l : Recs} {ls : List Value} {x : Option (List UInt8)} (ho : w.ownsRow B 23 1 lv l.length ls) (hv : ∀ (i : Nat) y, l[i]? = some y → ∃ v, ls[i]? = some v ∧ ElemAt B w v y) (he : ElemAt B w v x)
    (hg : w.grownBy w' lv.ownBlock) (ho' : w'.ownsRow B 23 1 lv' (l.length + 1) (ls ++ [v])) : RowAt B w' lv' (l ++ [x]) := by
  have hc : Chg (fun g => lv.ownBlock = some g) w w' := (Chg.refl _ w).grown hg (fun k hk _ => hk)
  have hS : ∀ g, lv.ownBlock = some g → ∀ cs, ¬ Blk w g 5 cs := by
    intro g hg cs hk
    obtain ⟨cs', hk'⟩ := own_ty ho hg
    exact hk.ne_ hk' (by decide) rfl
  have hl := ho.1
  refine ⟨ls ++ [v], by simpa using ho', fun i y hy => ?_⟩
  by_cases hi : i < l.length
  · rw [List.getElem?_append_left hi] at hy
    obtain ⟨u, hu, he'⟩ := hv i y hy
    exact ⟨u, by rw [List.getElem?_append_left (by omega)]; exact hu, he'.chg hc hS⟩
  · have hi' : i = l.length := by have := (List.getElem?_eq_some_iff.1 hy).1; simp at this; omega
    subst hi'
    rw [List.getElem?_append_right (by omega)] at hy
    simp at hy
    subst hy
    exact ⟨v, by rw [List.getElem?_append_right (by omega), hl, Nat.mul_one, Nat.sub_self]; rfl, he.chg hc hS⟩
/-- one more slot, stored in the page's box -/
theorem PgAt.push {B P : Nat} {w w' : World} {next : Int} {lv lv' v : Value} {l : Recs} {ls : List Value} {x : Option (List UInt8)} (hP : B ≤ P) (hb : Blk w P 55 #[.int .i64 next, lv]) (ho : w.ownsRow B 23 1 lv l.length ls) (hv : ∀ (i : Nat) y, l[i]? = some y → ∃ v, ls[i]? = some v ∧ ElemAt B w v y) (he : ElemAt B w v x)
    (hg : w.grownBy w' lv.ownBlock) (ho' : w'.ownsRow B 23 1 lv' (l.length + 1) (ls ++ [v])) : Blk w' P 55 #[.int .i64 next, lv] ∧ PgAt B (w'.setCell ⟨P, 1, none⟩ lv') P ⟨next, l ++ [x]⟩ ∧ (∀ k, k < B → w'.heap[k]? = w.heap[k]?) := by
  have hr : RowAt B w lv l := ⟨ls, ho, hv⟩
  have hb' : Blk w' P 55 #[.int .i64 next, lv] := hb.grown hg (fun e => hr.ne hb P e.symm rfl)
  have hr' := RowAt.push ho hv he hg ho'
  refine ⟨hb', PgAt.setL (q := ⟨next, l⟩) hP hb' hr' (hr'.ne hb'), fun k hk => hg.block k (by have := hb.lt; omega) (fun e => ?_)⟩
  rcases ho.2 with ⟨h', _⟩ | ⟨g, cap, cur, h', hge, _⟩
  · rw [h'] at e; simp [Value.ownBlock] at e
  · rw [h'] at e; simp [Value.ownBlock] at e; omega
theorem rd_one1 (w : World) (t : TypeId) (a : Value) : Rd (w.alloc (.cells #[a] t)) 1 (some ⟨w.heap.size, 0, none⟩) 1 [a] :=
  ⟨rfl, fun _ => ⟨_, rfl, by simp, fun j u hu => by rw [Addr.add_lit, Nat.zero_add, (Blk.new w t #[a]).cell]; simpa using hu⟩⟩

theorem first_facts {b o : Nat} {bs : List UInt8} {W : World} (hr : Rd W 1 (some ⟨b, o, none⟩) 504 (u8s bs)) (hn : 504 = bs.length) :
    ∃ b0 b1 b2 b3 b4 b5 : Nat, (b0 < 256 ∧ b1 < 256 ∧ b2 < 256 ∧ b3 < 256 ∧ b4 < 256 ∧ b5 < 256) ∧ (W.cell? ⟨b, o, none⟩ = some (.int .u8 b0) ∧ W.cell? ⟨b, o + 1, none⟩ = some (.int .u8 b1) ∧ W.cell? ⟨b, o + 2, none⟩ = some (.int .u8 b2) ∧ W.cell? ⟨b, o + 3, none⟩ = some (.int .u8 b3) ∧ W.cell? ⟨b, o + 4, none⟩ = some (.int .u8 b4) ∧ W.cell? ⟨b, o + 5, none⟩ = some (.int .u8 b5)) ∧
      bits .or .i64 ((b0 : Int) * 256) (b1 : Int) = (num2 bs 0 : Int) ∧ bits .or .i64 (bits .or .i64 (bits .or .i64 ((b2 : Int) * 16777216) ((b3 : Int) * 65536)) ((b4 : Int) * 256)) (b5 : Int) = (num4 bs 2 : Int) := by
  obtain ⟨b', o', e', hbl, hcs⟩ := hr.lit (by omega)
  injection e' with e'
  injection e' with e1 e2
  subst e1
  subst e2
  have hx : ∀ j, (bs.getD j 0).toNat < 256 := fun j => (bs.getD j 0).toNat_lt
  refine ⟨_, _, _, _, _, _, ⟨hx 0, hx 1, hx 2, hx 3, hx 4, hx 5⟩, ⟨hcs 0 _ (u8s_at bs 0 (by omega)), hcs 1 _ (u8s_at bs 1 (by omega)), hcs 2 _ (u8s_at bs 2 (by omega)), hcs 3 _ (u8s_at bs 3 (by omega)), hcs 4 _ (u8s_at bs 4 (by omega)), hcs 5 _ (u8s_at bs 5 (by omega))⟩, ?_, ?_⟩
  · rw [or2 _ _ (hx 0) (hx 1)]; rfl
  · rw [or4 _ _ _ _ (hx 2) (hx 3) (hx 4) (hx 5)]; rfl
theorem num2_lt (bs : List UInt8) (j : Nat) : num2 bs j < 65536 := by
  unfold num2
  have h1 := (bs.getD j 0).toNat_lt
  have h2 := (bs.getD (j + 1) 0).toNat_lt
  omega
theorem num4_lt (bs : List UInt8) (j : Nat) : num4 bs j < 4294967296 := by
  unfold num4
  have h1 := (bs.getD j 0).toNat_lt
  have h2 := (bs.getD (j + 1) 0).toNat_lt
  have h3 := (bs.getD (j + 2) 0).toNat_lt
  have h4 := (bs.getD (j + 3) 0).toNat_lt
  omega
theorem slot_facts {b o c k : Nat} {bs : List UInt8} {W : World} (hr : Rd W 1 (some ⟨b, o, none⟩) 504 (u8s bs)) (hn : 504 = bs.length) (hc : 504 ≤ c) (hk : k < 124) :
    ∃ b0 b1 b2 b3 : Nat, (b0 < 256 ∧ b1 < 256 ∧ b2 < 256 ∧ b3 < 256) ∧ (W.cell? ⟨b, o + (6 + 4 * k), none⟩ = some (.int .u8 b0) ∧ W.cell? ⟨b, o + (6 + 4 * k) + 1, none⟩ = some (.int .u8 b1) ∧ W.cell? ⟨b, o + (6 + 4 * k) + 2, none⟩ = some (.int .u8 b2) ∧ W.cell? ⟨b, o + (6 + 4 * k) + 3, none⟩ = some (.int .u8 b3)) ∧
      bits .or .i64 ((b0 : Int) * 256) (b1 : Int) = (num2 bs (6 + 4 * k) : Int) ∧ bits .or .i64 ((b2 : Int) * 256) (b3 : Int) = (num2 bs (8 + 4 * k) : Int) ∧
      ∀ W : World, (Instr.slice 23 (.slice (some ⟨b, o, none⟩) 504 c) (some (.int .i64 (6 + 4 * (k : Int)))) none none).run Try.prog W = .ok (.slice (some ⟨b, o + (6 + 4 * k), none⟩) (504 - (6 + 4 * k)) (c - (6 + 4 * k))) W := by
  obtain ⟨b', o', e', hbl, hcs⟩ := hr.lit (by omega)
  injection e' with e'
  injection e' with e1 e2
  subst e1
  subst e2
  have hx : ∀ j, (bs.getD j 0).toNat < 256 := fun j => (bs.getD j 0).toNat_lt
  refine ⟨_, _, _, _, ⟨hx (6 + 4 * k), hx (6 + 4 * k + 1), hx (8 + 4 * k), hx (8 + 4 * k + 1)⟩, ⟨hcs (6 + 4 * k) _ (u8s_at bs (6 + 4 * k) (by omega)), ?_, ?_, ?_⟩, ?_, ?_, ?_⟩
  · rw [show o + (6 + 4 * k) + 1 = o + (6 + 4 * k + 1) by omega]; exact hcs (6 + 4 * k + 1) _ (u8s_at bs (6 + 4 * k + 1) (by omega))
  · rw [show o + (6 + 4 * k) + 2 = o + (8 + 4 * k) by omega]; exact hcs (8 + 4 * k) _ (u8s_at bs (8 + 4 * k) (by omega))
  · rw [show o + (6 + 4 * k) + 3 = o + (8 + 4 * k + 1) by omega]; exact hcs (8 + 4 * k + 1) _ (u8s_at bs (8 + 4 * k + 1) (by omega))
  · rw [or2 _ _ (hx _) (hx _)]; rfl
  · rw [or2 _ _ (hx _) (hx _)]; rfl
  · exact sl_lit (6 + 4 * k) _ (by omega) (by omega) hc

section
variable {bs : List UInt8} {q : MPage} {a : Recs} {k : Nat}
theorem Is.len (h : Is bs q) : bs.length = 504 := by rw [← h.2]; exact h.1.length
theorem Is.count (h : Is bs q) : num2 bs 0 = q.l.length := by have := h.1.num; rwa [h.2] at this
theorem Is.next (h : Is bs q) : (num4 bs 2 : Int) = q.next := by have := h.1.next; rwa [h.2] at this
theorem Is.none_ (h : Is bs q) (hk : k < num2 bs 0) (ha : a = q.l.take k) (h0 : num2 bs (8 + 4 * k) = 0) : q.l.take (k + 1) = a ++ [none] := by
  have hkq : k < q.l.length := by rw [← h.count]; exact hk
  cases hx : q.l[k] with
  | none => rw [List.take_succ_eq_append_getElem hkq, ← ha, hx]
  | some r =>
    obtain ⟨h1, h2⟩ := h.1.slot_some k hkq r hx
    rw [h.2] at h2
    omega
theorem Is.some_ (h : Is bs q) (hk : k < num2 bs 0) (ha : a = q.l.take k) (h0 : num2 bs (8 + 4 * k) ≠ 0) : ∃ r, q.l.take (k + 1) = a ++ [some r] ∧ r.length + 1 = num2 bs (8 + 4 * k) ∧ num2 bs (6 + 4 * k) + sum a + r.length = 504 ∧ r.length ≤ 480 ∧ sum a + r.length + 4 * num2 bs 0 ≤ 498 ∧ (bs.drop (num2 bs (6 + 4 * k))).take r.length = r := by
  have hn := h.count
  have hkq : k < q.l.length := by rw [← h.count]; exact hk
  have hsu := sum_le q.l k hkq
  have hs1 := sum_take q.l (k + 1)
  have hf := h.1.fits.1
  cases hx : q.l[k] with
  | none =>
    have := h.1.slot_none k hkq hx
    rw [h.2] at this
    exact absurd this h0
  | some r =>
    obtain ⟨h1, h2⟩ := h.1.slot_some k hkq r hx
    have h3 := h.1.rec_ k hkq r hx
    rw [h.2] at h1 h2 h3
    rw [hx, ← ha] at hsu
    simp only [Option.getD_some] at hsu
    have hr480 := h.1.fits.2 r (by rw [← hx]; exact List.getElem_mem hkq)
    refine ⟨r, by rw [List.take_succ_eq_append_getElem hkq, ← ha, hx], h2.symm, by omega, hr480, by omega, ?_⟩
    rw [h1]
    exact h3
end

/-- the page's box, two letters in it -/
theorem Blk.any2 {w : World} {g : Nat} {t : TypeId} {a0 a1 : Value} (h : Blk w g t #[a0, a1]) : ∃ v0 v1, w.cell? ⟨g, 0, none⟩ = some v0 ∧ w.cell? ⟨g, 1, none⟩ = some v1 ∧ w.frozen? ⟨g, 0, none⟩ = false ∧ w.frozen? ⟨g, 1, none⟩ = false ∧ Hid (Blk w g t #[v0, v1]) :=
  ⟨_, _, h.cell_ 0 rfl, h.cell_ 1 rfl, h.frozen 0, h.frozen 1, hid h⟩
/-- the state of read's loop -/
structure RdS (bs : List UInt8) (w : World) (b o : Nat) (k : Nat) (a : Recs) (wr : World) : Prop where
  len : a.length = k
  fit : sum a + 4 * num2 bs 0 ≤ 498
  m480 : ∀ r, some r ∈ a → r.length ≤ 480
  pg : PgAt w.heap.size wr w.heap.size ⟨num4 bs 2, a⟩
  be : Below w.heap.size w wr
  rd : Rd wr 1 (some ⟨b, o, none⟩) 504 (u8s bs)
  is : ∀ q, Is bs q → a = q.l.take k
theorem wpAnyH_mono {P : Program} {md : Region.Mode} {ops : Array Oper} {Q : Exit → Act → World → Prop} {S S' : World → Prop} (hS : ∀ w, S' w → S w) : ∀ (fuel : Nat) (listed : Array Bool) (a : Act) (w : World),
    wpAnyH P md ops Q S' fuel listed a w → wpAnyH P md ops Q S fuel listed a w
  | 0, _, _, _, h => h
  | fuel + 1, _, _, _, h => ⟨h.1, fun i hi => wpOp_mono (fun a' w' h' => ⟨hS _ h'.1, wpAnyH_mono hS fuel _ a' w' h'.2⟩) (h.2 i hi)⟩
theorem trim_fits {l : Recs} (h : 4 * l.length + sum l ≤ 498) (h4 : ∀ r, some r ∈ l → r.length ≤ 480) : Fits (trim l) := by
  obtain ⟨k, hk⟩ := trim_prefix l
  have h1 := congrArg List.length hk
  have h2 := congrArg sum hk
  rw [sum_append] at h2
  rw [List.length_append] at h1
  refine ⟨by omega, fun r hr => h4 r ?_⟩
  rw [hk]
  exact List.mem_append_left _ hr
theorem good_of {l : Recs} {m : Nat} (h : 4 * l.length + sum l ≤ 498) (h4 : ∀ r, some r ∈ l → r.length ≤ 480) (hm : m < 4294967296) : Good ⟨m, l⟩ :=
  ⟨trim_fits h h4, by simp, by simp; omega, by simp; omega⟩
theorem is_of {l : Recs} {m : Nat} {bs : List UInt8} (h : 4 * l.length + sum l ≤ 498) (h4 : ∀ r, some r ∈ l → r.length ≤ 480) (hm : m < 4294967296) (hb : MPage.bytes ⟨m, l⟩ = bs) (hn : l.length = num2 bs 0) : trim l = l ∧ Is bs ⟨m, l⟩ := by
  have hf := trim_fits h h4
  have e : trim l = l := by
    have h1 : num2 (MPage.bytes ⟨m, l⟩) 0 = (trim l).length := page_len _ _ _ (by show (trim l).length < 65536; have := hf.1; omega)
    rw [hb, ← hn] at h1
    obtain ⟨k, hk⟩ := trim_prefix l
    have h2 := congrArg List.length hk
    rw [List.length_append, List.length_replicate] at h2
    have : k = 0 := by omega
    subst this
    simpa using hk.symm
  exact ⟨e, ⟨e, by rw [e] at hf; exact hf, by simp, by simp; omega⟩, hb⟩
theorem is_not {l : Recs} {bs : List UInt8} {k : Nat} (hl : l.length = k) (h : ∀ q, Is bs q → l = q.l.take k) (hk : k = num2 bs 0) (hne : ¬ MPage.bytes ⟨num4 bs 2, l⟩ = bs) : ∀ q, ¬ Is bs q := by
  intro q hq
  have h1 := h q hq
  have h2 := hq.count
  rw [List.take_of_length_le (by omega)] at h1
  have h3 := hq.next
  refine hne ?_
  have : q = ⟨num4 bs 2, l⟩ := by cases q; simp only at h1 h3; subst h1; subst h3; rfl
  rw [← this]
  exact hq.2
theorem Good.length {q : MPage} (h : Good q) : q.bytes.length = 504 := length_page _ _ _ h.fits.1
/-- the page's box and its row, where a slot's value is laid into a block of its own -/
theorem nil_alloc {B P : Nat} {w : World} {next : Int} {lv : Value} {l : Recs} {ls : List Value} (hb : Blk w P 55 #[.int .i64 next, lv]) (ho : w.ownsRow B 23 1 lv l.length ls) (hv : ∀ (i : Nat) y, l[i]? = some y → ∃ v, ls[i]? = some v ∧ ElemAt B w v y) {v : Value} :
    Blk (w.alloc (.cells #[v] 23)) P 55 #[.int .i64 next, lv] ∧ (w.alloc (.cells #[v] 23)).ownsRow B 23 1 lv l.length ls ∧ ∀ (i : Nat) y, l[i]? = some y → ∃ v', ls[i]? = some v' ∧ ElemAt B (w.alloc (.cells #[v] 23)) v' y := by
  have hbe : Below w.heap.size w (w.alloc (.cells #[v] 23)) := (Below.refl _ _).alloc (Nat.le_refl _) _
  have hc : Chg (fun _ => False) w (w.alloc (.cells #[v] 23)) := Chg.of_below hbe
  refine ⟨hb.alloc _, own_chg ho hc (fun _ _ h => h), fun i y hy => ?_⟩
  obtain ⟨u, hu, he⟩ := hv i y hy
  exact ⟨u, hu, he.chg hc (fun _ h => h.elim)⟩
theorem ElemAt.drew {B : Nat} {w : World} {v : Value} {x : Option (List UInt8)} (h : ElemAt B w v x) : ElemAt B w.drew v x := h.chg (S := fun _ => False) (Chg.refl _ w).drew (fun _ h => h.elim)
theorem hls_drew {B : Nat} {w : World} {u : Option Value} {x : Option (List UInt8)} (h : ∃ v, u = some v ∧ ElemAt B w v x) : ∃ v, u = some v ∧ ElemAt B w.drew v x := by
  obtain ⟨v, e, h⟩ := h
  exact ⟨v, e, h.drew⟩
/-- a slot's record is laid into new memory: first the empty literal .. -/
def RecF (B : Nat) (w : World) (P : Nat) (next : Int) (lv : Value) (l : Recs) (ls : List Value) (A2 : Option Addr) (rc : List UInt8) : Prop :=
  (w.alloc (.cells #[] 5)).ownsRow w.heap.size 5 1 (.slice (some ⟨w.heap.size, 0, none⟩) 0 0) 0 [] ∧ Rd (w.alloc (.cells #[] 5)) 1 A2 rc.length (u8s rc) ∧ Blk (w.alloc (.cells #[] 5)) P 55 #[.int .i64 next, lv] ∧
  Blk w P 55 #[.int .i64 next, lv] ∧ w.ownsRow B 23 1 lv l.length ls ∧ ∀ (i : Nat) y, l[i]? = some y → ∃ v, ls[i]? = some v ∧ ElemAt B w v y
theorem rec_first {B P : Nat} {w : World} {next : Int} {lv : Value} {l : Recs} {ls : List Value} {A2 : Option Addr} {rc : List UInt8} (hb : Blk w P 55 #[.int .i64 next, lv]) (ho : w.ownsRow B 23 1 lv l.length ls) (hv : ∀ (i : Nat) y, l[i]? = some y → ∃ v, ls[i]? = some v ∧ ElemAt B w v y) (hr : Rd w 1 A2 rc.length (u8s rc)) : RecF B w P next lv l ls A2 rc :=
  ⟨World.ownsRow_lit (base := w.heap.size) (e := 5) (size := 1) w #[] 0 (Nat.le_refl _) (by omega) rfl, hr.keep (by simp) fun _ _ h => Below.heap_alloc _ _ _ h, hb.alloc _, hb, ho, hv⟩
/-- .. then its bytes, then the slot's value in a block of its own -/
theorem rec_second {B P : Nat} {w w3 : World} {next : Int} {lv v3 : Value} {l : Recs} {ls : List Value} {A2 : Option Addr} {rc : List UInt8} (h : RecF B w P next lv l ls A2 rc) (hown3 : w3.ownsRow w.heap.size 5 1 v3 (0 + rc.length) ([] ++ u8s rc)) (hg3 : (w.alloc (.cells #[] 5)).grownBy w3 (Value.ownBlock (.slice (some ⟨w.heap.size, 0, none⟩) 0 0)))
    (hat3 : v3.ownBlock = Value.ownBlock (.slice (some ⟨w.heap.size, 0, none⟩) 0 0) ∨ v3.ownBlock = some (w.alloc (.cells #[] 5)).heap.size) (hB : B ≤ w.heap.size) :
    ∃ g c3, v3 = .slice (some ⟨g, 0, none⟩) rc.length c3 ∧ Hid (Blk w3 P 55 #[.int .i64 next, lv] ∧ w3.ownsRow B 23 1 lv l.length ls ∧ Below w.heap.size w w3) ∧
      Hid (ElemAt B (w3.alloc (.cells #[.slice (some ⟨g, 0, none⟩) rc.length c3] 23)) (.slice (some ⟨g, 0, none⟩) rc.length c3) (some rc)) ∧
      Hid (Blk (w3.alloc (.cells #[.slice (some ⟨g, 0, none⟩) rc.length c3] 23)) P 55 #[.int .i64 next, lv] ∧ (w3.alloc (.cells #[.slice (some ⟨g, 0, none⟩) rc.length c3] 23)).ownsRow B 23 1 lv l.length ls ∧ ∀ (i : Nat) y, l[i]? = some y → ∃ v', ls[i]? = some v' ∧ ElemAt B (w3.alloc (.cells #[.slice (some ⟨g, 0, none⟩) rc.length c3] 23)) v' y) ∧
      Hid (Rd (w3.alloc (.cells #[.slice (some ⟨g, 0, none⟩) rc.length c3] 23)) 1 (some ⟨w3.heap.size, 0, none⟩) 1 [.slice (some ⟨g, 0, none⟩) rc.length c3]) ∧ Hid (B ≤ (w3.alloc (.cells #[.slice (some ⟨g, 0, none⟩) rc.length c3] 23)).heap.size) ∧ Hid (∀ u ∈ [Value.slice (some ⟨g, 0, none⟩) rc.length c3], u.oneCell' = true) := by
  obtain ⟨_, _, _, hb, ho, hv⟩ := h
  have hown3' : w3.ownsRow w.heap.size 5 1 v3 rc.length (u8s rc) := by simpa using hown3
  have hb3 : Below w.heap.size w w3 := ((Below.refl _ _).alloc (Nat.le_refl _) (.cells #[] 5)).grown hg3 (by simp) (fun k hk => by simp [Value.ownBlock] at hk; omega)
  obtain ⟨g, c3, rfl, hc3⟩ : ∃ g c3, v3 = .slice (some ⟨g, 0, none⟩) rc.length c3 ∧ rc.length ≤ c3 := by
    rcases hown3'.2 with ⟨h', h0⟩ | ⟨g, cap, cur, h', _, _, hle, _⟩
    · exfalso
      rcases hat3 with h | h
      · rw [h'] at h; simp [Value.ownBlock] at h
      · rw [h'] at h; simp [Value.ownBlock] at h
    · exact ⟨g, cap, h', hle⟩
  have hc : Chg (fun _ => False) w w3 := Chg.of_below hb3
  have hbP := hb.below hb3 hb.lt
  have ho3 := own_chg ho hc (fun _ _ h => h)
  have hv3 : ∀ (i : Nat) y, l[i]? = some y → ∃ v, ls[i]? = some v ∧ ElemAt B w3 v y := fun i y hy => by
    obtain ⟨u, hu, he⟩ := hv i y hy
    exact ⟨u, hu, he.chg hc (fun _ h => h.elim)⟩
  have hn3 : NewRow B w3 5 1 (some ⟨g, 0, none⟩) rc.length (u8s rc) := (NewRow.of_own hown3').mono hB
  refine ⟨g, c3, rfl, hid ⟨hbP, ho3, hb3⟩, hid ⟨g, c3, rfl, hc3, hn3.below ((Below.refl _ _).alloc (Nat.le_refl _) _)⟩, hid (nil_alloc hbP ho3 hv3), hid (rd_one1 _ _ _), hid (by have := hb3.size; simp; omega), hid (by intro u hu; simp at hu; subst hu; rfl)⟩
theorem blk2b {w : World} {g : Nat} {t : TypeId} {a0 a1 : Value} (h : Blk w g t #[a0, a1]) : w.cell? ⟨g, 1, none⟩ = some a1 := h.cell_ 1 rfl
theorem below_push {B : Nat} {w w' : World} {row : Option Nat} {o : Obj} {v : Value} (hg : (w.alloc o).grownBy w' row) (hk : ∀ k, k < B → w'.heap[k]? = (w.alloc o).heap[k]?) (hB : B ≤ w.heap.size) : Below B w (w'.setCell ⟨B, 1, none⟩ v) := by
  have h1 : Below B w (w.alloc o) := (Below.refl _ _).alloc hB _
  have h2 : Below B (w.alloc o) w' := ⟨hg.os, hg.tape, hg.output, hg.size, hk⟩
  exact (h1.trans h2).trans ((chg_set B 1 v).below (by have := hg.size; have := h1.size; omega) (fun i hi => by omega))
theorem Rd.below_old {w wr w' : World} {b o n : Nat} {xs : List Value} (h : Rd wr 1 (some ⟨b, o, none⟩) n xs) (h1 : Below w.heap.size w wr) (h2 : Below w.heap.size w w') (hb : b < w.heap.size) : Rd w' 1 (some ⟨b, o, none⟩) n xs :=
  ⟨h.1, fun hn => by
    obtain ⟨ad, e, _, hc⟩ := h.2 hn
    injection e with e
    subst e
    refine ⟨_, rfl, Nat.lt_of_lt_of_le hb h2.size, fun j u hu => ?_⟩
    have := hc j u hu
    rw [World.cell?_of_block (w := wr) (by rw [block_of_add]; exact (h2.block b hb).trans (h1.block b hb).symm)]
    exact this⟩
theorem blk2a {w : World} {g : Nat} {t : TypeId} {a0 a1 : Value} (h : Blk w g t #[a0, a1]) : w.cell? ⟨g, 0, none⟩ = some a0 := h.cell_ 0 rfl
theorem PgAt.any2 {B P : Nat} {w : World} {q : MPage} (h : PgAt B w P q) : ∃ v0 v1, w.cell? ⟨P, 0, none⟩ = some v0 ∧ w.cell? ⟨P, 1, none⟩ = some v1 ∧ w.frozen? ⟨P, 0, none⟩ = false ∧ w.frozen? ⟨P, 1, none⟩ = false ∧ Hid (Blk w P 55 #[v0, v1]) := by
  obtain ⟨_, lv, hb, _⟩ := h
  exact hb.any2

set_option maxHeartbeats 6400000 in
theorem read_any (A : Option Addr) (n c : Nat) (bs : List UInt8) (w : World) (hr : Rd w 1 A n (u8s bs)) (hn : n = bs.length) (hc : n ≤ c) :
    Calls Try.prog 26 #[.slice A n c] w fun e w' => ReadPost bs w e w' := by
  obtain ⟨i23, hi23, hz0, hz1, hz2⟩ := info_parts info23
  obtain ⟨i5, hi5, hy0, hy1, hy2⟩ := info_parts info5
  have hW0 : ∀ W0, w.alloc (.cells #[.int .i64 0, .slice none 0 0] 55) = W0 → Hid (Blk W0 w.heap.size 55 #[.int .i64 0, .slice none 0 0] ∧ Below w.heap.size w W0 ∧ Rd W0 1 A n (u8s bs)) := by
    rintro _ rfl
    have hbe0 : Below w.heap.size w (w.alloc (.cells #[.int .i64 0, .slice none 0 0] 55)) := (Below.refl _ _).alloc (Nat.le_refl _) _
    exact hid ⟨Blk.new w 55 _, hbe0, hr.below hbe0⟩
  by_cases h504 : n = 504
  · subst h504
    obtain ⟨b, o, rfl, hfb, _⟩ := hr.lit (by omega)
    have hW1 : ∀ W1, w.alloc (.cells #[.int .i64 0, .slice none 0 0] 55) = W1 → ∃ b0 b1 b2 b3 b4 b5 : Nat, (b0 < 256 ∧ b1 < 256 ∧ b2 < 256 ∧ b3 < 256 ∧ b4 < 256 ∧ b5 < 256) ∧ (W1.cell? ⟨b, o, none⟩ = some (.int .u8 b0) ∧ W1.cell? ⟨b, o + 1, none⟩ = some (.int .u8 b1) ∧ W1.cell? ⟨b, o + 2, none⟩ = some (.int .u8 b2) ∧ W1.cell? ⟨b, o + 3, none⟩ = some (.int .u8 b3) ∧ W1.cell? ⟨b, o + 4, none⟩ = some (.int .u8 b4) ∧ W1.cell? ⟨b, o + 5, none⟩ = some (.int .u8 b5)) ∧
      bits .or .i64 ((b0 : Int) * 256) (b1 : Int) = (num2 bs 0 : Int) ∧ bits .or .i64 (bits .or .i64 (bits .or .i64 ((b2 : Int) * 16777216) ((b3 : Int) * 65536)) ((b4 : Int) * 256)) (b5 : Int) = (num4 bs 2 : Int) :=
      fun W1 h => first_facts (hW0 W1 h).out.2.2 hn
    have hlb : b ≠ w.heap.size := by omega
    have hn' := hid hn
    have HN := hid (fun q (h : Is bs q) => h.count)
    have HLT := num2_lt bs 0
    have HLM := num4_lt bs 2
    clear hr hn
    go_enter Try.func26, Try.ntmps26
    go_wp2_with fail
    generalize hw0 : (w.alloc (.cells #[.int .i64 0, .slice none 0 0] 55)) = W0
    obtain ⟨b0, b1, b2, b3, b4, b5, ⟨x0, x1, x2, x3, x4, x5⟩, ⟨p0, p1, p2, p3, p4, p5⟩, hor, hor4⟩ := hW1 _ hw0
    have H0 := hW0 _ hw0
    have hf0 := (hW0 _ hw0).out.1.frozen 0
    have hc0 := blk2a (hW0 _ hw0).out.1
    have HOR := hid hor4
    clear hw0 hW0 hW1 hor4
    refine wp_scope_forward 0 rfl ?_
    as_aux_lemma =>
    go_wp2_with fail
    go_region
    go_wp2_with fail
    go_region
    rw [HOR.out]
    generalize hw1 : W0.setCell ⟨w.heap.size, 0, none⟩ (.int .i64 (num4 bs 2 : Int)) = W1
    have H1 : Hid (Blk W1 w.heap.size 55 #[.int .i64 (num4 bs 2 : Int), .slice none 0 0] ∧ Below w.heap.size w W1 ∧ Rd W1 1 (some ⟨b, o, none⟩) 504 (u8s bs)) := hid (by
      subst hw1
      have hch := ((Chg.refl (· = w.heap.size) W0).setCell (p := ⟨w.heap.size, 0, none⟩) (fun _ => rfl) (.int .i64 (num4 bs 2 : Int)))
      exact ⟨by have := H0.out.1.set_ 0 (.int .i64 (num4 bs 2 : Int)); simpa using this, H0.out.2.1.trans (hch.below H0.out.2.1.size (fun i hi => by omega)), H0.out.2.2.chg hch (fun ad e hp => by injection e with e; subst e; exact hlb hp)⟩)
    clear hw1 p0 p1 p2 p3 p4 p5 x0 x1 x2 x3 x4 x5 hor HOR hf0 hc0 H0 hlb HLM
    by_cases h124 : num2 bs 0 ≤ 124
    · as_aux_lemma =>
      have HS0 : Hid (RdS bs w b o 0 [] W1.drew.drew) := hid ⟨rfl, by simp [sum]; omega, by simp, ⟨Nat.le_refl _, _, H1.out.1, [], World.ownsRow_nil _ _ _ _, fun i x h => by simp at h⟩, H1.out.2.1.drew.drew, H1.out.2.2, fun q _ => by simp⟩
      clear H1
      go_wp2_with fail
      go_loopw [5, 49] (fun e i wr => ∃ (k : Nat) (a : Recs), k ≤ num2 bs 0 ∧ i = .int .i64 k ∧ e = .int .i64 (504 - (sum a : Int)) ∧ RdS bs w b o k a wr) (fun _ i _ => num2 bs 0 - (intOf i).toNat)
      case atStart => exact ⟨0, [], by omega, rfl, by simp [sum], HS0.out⟩
      case round => as_aux_lemma =>
        obtain ⟨k, a, hk, rfl, rfl, hS⟩ := hrel
        have HS := hid hS
        by_cases hlt : k < num2 bs 0
        · obtain ⟨b0, b1, b2, b3, ⟨x0, x1, x2, x3⟩, ⟨p0, p1, p2, p3⟩, hor, hor2, hsl⟩ := slot_facts (k := k) hS.rd hn'.out hc (by omega)
          have hsa : sum a ≤ 498 := by have := hS.fit; omega
          have hlt' : (k : Int) < (num2 bs 0 : Int) := by omega
          clear hS HS0
          have hA3 := num2_lt bs (6 + 4 * k)
          have hS3 := num2_lt bs (8 + 4 * k)
          by_cases hS0 : num2 bs (8 + 4 * k) = 0
          · as_aux_lemma =>
            have hS1 : ((num2 bs (8 + 4 * k) : Int) - 1 < 0) := by omega
            obtain ⟨_, lv, hb, ls, hown, hls⟩ := HS.out.pg
            have hb : Blk wr w.heap.size 55 #[.int .i64 (num4 bs 2 : Int), lv] := hb
            have hown : wr.ownsRow w.heap.size 23 1 lv a.length ls := hown
            have hls : ∀ (i : Nat) y, a[i]? = some y → ∃ v, ls[i]? = some v ∧ ElemAt w.heap.size wr v y := hls
            obtain ⟨A1, c1', rfl, _⟩ := own_form hown
            obtain ⟨pc0, pc1, pfz⟩ := blk2 hb
            have pf1 := pfz 1
            have HX := hid (nil_alloc (w := wr.drew) (v := .slice none 0 0) hb hown (fun i y h => hls_drew (hls i y h)))
            have hla : a.length ≤ 124 := by have := HS.out.len; omega
            have hbw := HS.out.be.size
            clear hb hown hls pfz
            go_wp2_with fail
            go_region
            go_wp2_with (at_builtin; refine wpList_append_any _ rfl (.tmp 81) (.tmp 82) 22 rfl w.heap.size 23 i23 _ 1 24 Try.underlying22 hi23 hz0 hz1 hz2 rfl (by omega) _ a.length ls rfl HX.out.2.1 _ 1 1 _ rfl (rd_one1 _ _ _) (by simp [Value.oneCell']) (by unfold maxLen; omega) (by omega) (by simp; omega) ?_)
            intro v5 w5 hown5 hg5 hat5
            obtain ⟨A5, n5, rfl, _⟩ := own_form hown5
            obtain ⟨hb5, hp5, hk5⟩ := PgAt.push (x := none) (Nat.le_refl _) HX.out.1 HX.out.2.1 HX.out.2.2 rfl hg5 hown5
            have c5 := blk2b hb5
            have f5 := hb5.frozen 1
            have HP5 := hid hp5
            have hb6 : Below w.heap.size w (w5.setCell ⟨w.heap.size, 1, none⟩ (.slice A5 (a.length + 1) n5)) := HS.out.be.drew.trans (below_push hg5 hk5 hbw)
            have HB6 := hid hb6
            have HR6 := hid (HS.out.rd.below_old HS.out.be hb6 hfb)
            clear HX pc0 pc1 pf1 hown5 hg5 hat5 hb5 hp5 hk5 hb6 p0 p1 p2 p3
            go_wp2
            go_roundw
            case rel => exact ⟨k + 1, a ++ [none], by omega, by go_num, by rw [sum_snoc]; simp, ⟨by simp [HS.out.len], by rw [sum_snoc]; simpa using HS.out.fit, fun r hr => HS.out.m480 r (by simpa using hr), HP5.out, HB6.out, HR6.out, fun q hq => (hq.none_ hlt (HS.out.is q hq) hS0).symm⟩⟩
            case measure => simp [intOf]; omega
          · have hS1 : ¬ ((num2 bs (8 + 4 * k) : Int) - 1 < 0) := by omega
            by_cases h1 : num2 bs (8 + 4 * k) - 1 ≤ 480
            · by_cases h2 : sum a + (num2 bs (8 + 4 * k) - 1) + 4 * num2 bs 0 ≤ 498
              · by_cases h3 : num2 bs (6 + 4 * k) + sum a + (num2 bs (8 + 4 * k) - 1) = 504
                · as_aux_lemma =>
                  have g1 : (num2 bs (8 + 4 * k) : Int) - 1 ≤ 480 := by omega
                  have g2 : (num2 bs (8 + 4 * k) : Int) - 1 ≤ 504 - (sum a : Int) - 6 - 4 * (num2 bs 0 : Int) := by omega
                  have g3 : ((num2 bs (6 + 4 * k) : Int) != 504 - (sum a : Int) - ((num2 bs (8 + 4 * k) : Int) - 1)) = false := bne_eq_false_iff_eq.mpr (by omega)
                  obtain ⟨_, lv, hb, ls, hown, hls⟩ := HS.out.pg
                  have hb : Blk wr w.heap.size 55 #[.int .i64 (num4 bs 2 : Int), lv] := hb
                  have hown : wr.ownsRow w.heap.size 23 1 lv a.length ls := hown
                  have hls : ∀ (i : Nat) y, a[i]? = some y → ∃ v, ls[i]? = some v ∧ ElemAt w.heap.size wr v y := hls
                  obtain ⟨A1, c1', rfl, _⟩ := own_form hown
                  obtain ⟨rc, hrc⟩ : ∃ rc, rc = (bs.drop (num2 bs (6 + 4 * k))).take (num2 bs (8 + 4 * k) - 1) := ⟨_, rfl⟩
                  have hrl : rc.length = num2 bs (8 + 4 * k) - 1 := by have := hn'.out; rw [hrc, List.length_take, List.length_drop]; omega
                  obtain ⟨A2, hsl2, hr2⟩ := sl_two HS.out.rd (num2 bs (6 + 4 * k)) (504 - sum a) (num2 bs (6 + 4 * k) : Int) (504 - (sum a : Int)) rfl (by omega) (by omega) (by omega) hc
                  have hle : 504 - sum a - num2 bs (6 + 4 * k) = rc.length := by omega
                  rw [hle] at hsl2 hr2
                  rw [hrl, show ((u8s bs).drop (num2 bs (6 + 4 * k))).take (num2 bs (8 + 4 * k) - 1) = u8s rc by rw [hrc]; simp [u8s, List.map_take, List.map_drop], ← hrl] at hr2
                  have hl480 : rc.length ≤ 480 := by omega
                  have hla : a.length ≤ 124 := by have := HS.out.len; omega
                  have hbw := HS.out.be.size
                  have HF := hid (rec_first (w := wr.drew.drew) hb hown (fun i y h => hls_drew (hls_drew (hls i y h))) hr2)
                  have Hrl := hid hrl
                  have Hrc := hid hrc
                  have pc1 := blk2b hb
                  have pc2 : (wr.alloc (.cells #[] 5)).cell? ⟨w.heap.size, 1, none⟩ = some (.slice A1 a.length c1') := blk2b (hb.alloc _)
                  clear hb hown hls hr2 hrc hle hrl
                  go_wp2_with fail
                  go_region
                  go_wp2_with fail
                  go_region_law
                    (first
                      | ((refine step_append_any _ (by rfl) _ _ _ (by rfl) w.heap.size 23 i23 _ 1 24 Try.underlying22 hi23 hz0 hz1 hz2 rfl (by omega) _ a.length ls (by rfl) HX.out.2.1 _ 1 1 _ (by rfl) HRD3.out HOC.out (by unfold maxLen; omega) (by omega) HSZ.out ?_); intro v5 w5 hown5 hg5 hat5; obtain ⟨A5, n5, rfl, _⟩ := own_form hown5; obtain ⟨hb5, hp5, hk5⟩ := PgAt.push (x := some rc) (Nat.le_refl _) HX.out.1 HX.out.2.1 HX.out.2.2 HE.out hg5 hown5; have hc5 := blk2b hb5; have hf5 := hb5.frozen 1)
                      | ((refine step_append_any _ (by rfl) _ _ _ (by rfl) wr.heap.size 5 i5 _ 1 1 Try.underlying23 hi5 hy0 hy1 hy2 rfl (by omega) _ 0 [] (by rfl) HF.out.1 A2 rc.length _ _ (by rfl) HF.out.2.1 (u8s_one _) (by unfold maxLen; omega) (by omega) (by simp) ?_); intro v3 w3 hown3 hg3 hat3; obtain ⟨g3', c3, rfl, HP3, HE, HX, HRD3, HSZ, HOC⟩ := rec_second HF.out hown3 hg3 hat3 hbw; have hc3 := blk2b HP3.out.1; have hc4 := blk2b HX.out.1)
                      | go_simp)
                  all_goals as_aux_lemma =>
                    have hB6 : Below w.heap.size w (w5.setCell ⟨w.heap.size, 1, none⟩ (.slice A5 (a.length + 1) n5)) := (HS.out.be.drew.drew.trans (HP3.out.2.2.mono hbw)).trans (below_push hg5 hk5 (Nat.le_trans hbw HP3.out.2.2.size))
                    have HB6 := hid hB6
                    have HR6 := hid (HS.out.rd.below_old HS.out.be hB6 hfb)
                    have HP5 := hid hp5
                    clear hB6 hp5 hk5 hg5 hown5 hat5 hown3 hat3 hg3 HX HE HP3 HRD3 HSZ hls
                    go_wp2
                    go_roundw
                    case rel =>
                      refine ⟨k + 1, a ++ [some rc], by omega, by go_num, ?_, ⟨by simp [HS.out.len], ?_, fun r hr => ?_, HP5.out, HB6.out, HR6.out, fun q hq => ?_⟩⟩
                      · rw [sum_snoc]; simp only [Option.getD_some]; congr 1; have := Hrl.out; omega
                      · rw [sum_snoc]; simp only [Option.getD_some]; have := Hrl.out; omega
                      · rcases List.mem_append.1 hr with hr | hr
                        · exact HS.out.m480 r hr
                        · simp at hr; subst hr; exact hl480
                      · obtain ⟨r, a1, a2, a3, a4, a5, a6⟩ := hq.some_ hlt (HS.out.is q hq) hS0
                        rw [a1, Hrc.out, ← a2, Nat.add_sub_cancel, a6]
                    case measure => simp [intOf]; omega
                · as_aux_lemma =>
                  have hq : Hid (∀ q, ¬ Is bs q) := hid (fun q hq => by obtain ⟨r, a1, a2, a3, a4, a5, a6⟩ := hq.some_ hlt (HS.out.is q hq) hS0; omega)
                  have g1 : (num2 bs (8 + 4 * k) : Int) - 1 ≤ 480 := by omega
                  have g2 : (num2 bs (8 + 4 * k) : Int) - 1 ≤ 504 - (sum a : Int) - 6 - 4 * (num2 bs 0 : Int) := by omega
                  have g3 : ((num2 bs (6 + 4 * k) : Int) != 504 - (sum a : Int) - ((num2 bs (8 + 4 * k) : Int) - 1)) = true := bne_iff_ne.mpr (by omega)
                  go_wp2_with fail
                  go_region
                  obtain ⟨v0, v1, wc0, wc1, wf0, wf1, HBx⟩ := HS.out.pg.any2
                  go_wp2
                  go_step3
                  refine And.intro rfl ?_
                  show Code.wp _ _ _ _ _
                  go_wp2_with fail
                  rw [Exit.noGoto_ret]
                  refine bodyPost_ret (results_cell2 rfl _ _ w.heap.size 55 _ _ rfl (blk_store2 _ _ HBx.out) Try.underlying55 rfl (by kernel_rfl)) rfl ?_
                  have hBS := below_store2 HS.out.be (Nat.le_refl _) (Nat.le_refl _) (.int .i64 0) (.slice none 0 0)
                  exact ⟨by first | exact hBS | exact hBS.drew | exact hBS.drew.drew, .inr ⟨hq.out, rfl⟩⟩
              · as_aux_lemma =>
                have hq : Hid (∀ q, ¬ Is bs q) := hid (fun q hq => by obtain ⟨r, a1, a2, a3, a4, a5, a6⟩ := hq.some_ hlt (HS.out.is q hq) hS0; omega)
                have g1 : (num2 bs (8 + 4 * k) : Int) - 1 ≤ 480 := by omega
                have g2 : 504 - (sum a : Int) - 6 - 4 * (num2 bs 0 : Int) < (num2 bs (8 + 4 * k) : Int) - 1 := by omega
                go_wp2_with fail
                go_region
                obtain ⟨v0, v1, wc0, wc1, wf0, wf1, HBx⟩ := HS.out.pg.any2
                go_wp2
                go_step3
                refine And.intro rfl ?_
                show Code.wp _ _ _ _ _
                go_wp2_with fail
                rw [Exit.noGoto_ret]
                refine bodyPost_ret (results_cell2 rfl _ _ w.heap.size 55 _ _ rfl (blk_store2 _ _ HBx.out) Try.underlying55 rfl (by kernel_rfl)) rfl ?_
                have hBS := below_store2 HS.out.be (Nat.le_refl _) (Nat.le_refl _) (.int .i64 0) (.slice none 0 0)
                exact ⟨by first | exact hBS | exact hBS.drew | exact hBS.drew.drew, .inr ⟨hq.out, rfl⟩⟩
            · as_aux_lemma =>
              have hq : Hid (∀ q, ¬ Is bs q) := hid (fun q hq => by obtain ⟨r, a1, a2, a3, a4, a5, a6⟩ := hq.some_ hlt (HS.out.is q hq) hS0; omega)
              have g1 : 480 < (num2 bs (8 + 4 * k) : Int) - 1 := by omega
              go_wp2_with fail
              go_region
              obtain ⟨v0, v1, wc0, wc1, wf0, wf1, HBx⟩ := HS.out.pg.any2
              go_wp2
              go_step3
              refine And.intro rfl ?_
              show Code.wp _ _ _ _ _
              go_wp2_with fail
              rw [Exit.noGoto_ret]
              refine bodyPost_ret (results_cell2 rfl _ _ w.heap.size 55 _ _ rfl (blk_store2 _ _ HBx.out) Try.underlying55 rfl (by kernel_rfl)) rfl ?_
              have hBS := below_store2 HS.out.be (Nat.le_refl _) (Nat.le_refl _) (.int .i64 0) (.slice none 0 0)
              exact ⟨by first | exact hBS | exact hBS.drew | exact hBS.drew.drew, .inr ⟨hq.out, rfl⟩⟩
        · as_aux_lemma =>
          have hkN : k = num2 bs 0 := by omega
          have hlt' : ¬ ((k : Int) < (num2 bs 0 : Int)) := by omega
          have HG : Hid (Good ⟨num4 bs 2, a⟩) := hid (good_of (by have := hS.fit; have := hS.len; omega) hS.m480 (num4_lt bs 2))
          have s1 := run_str wr (some ⟨b, o, none⟩) 504 c bs hS.rd
          have s1d := run_str wr.drew (some ⟨b, o, none⟩) 504 c bs hS.rd
          have hbw := hS.be.size
          have HPD := hid (hS.pg.fresh (w' := wr.drew) (Below.refl _ _).drew)
          clear hS HS0
          obtain ⟨d, hd⟩ : ∃ d, (!((MPage.bytes ⟨num4 bs 2, a⟩) == bs)) = d := ⟨_, rfl⟩
          go_wp2_with fail
          refine wp_region_held_drew (S := fun w' => (convert 23 9 (.slice (some ⟨b, o, none⟩) 504 c)).run Try.prog w' = .ok (.string ⟨(bs).toArray⟩) w') (by kernel_rfl) (by exact s1d) (fun hHeld => ?_)
          refine wpAnyH_take (i := 2) (oi := { dst := some 118, op := Op.move (Operand.tmp 0), type := 23, pos := _, after := #[], guard := none }) (v := ?_) rfl (by kernel_rfl) (by kernel_rfl) (by kernel_rfl) (fun _ _ _ h => h) (Or.inl ⟨by rfl, ?_⟩) (by assumption) ?_
          rotate_left
          · (intro w' hSw; (try dsimp only at hSw); go_simp; try with_reducible rfl)
          try simp only [Act.put, List.setIfInBounds_toArray, List.set_cons_zero, List.set_cons_succ]
          refine wpAnyH_take (i := 3) (oi := { dst := some 119, op := Op.convert 23 9 (Operand.tmp 118), type := 9, pos := _, after := #[{ on := 2, ground := Ground.data }], guard := none }) (v := ?_) rfl (by kernel_rfl) (by kernel_rfl) (by kernel_rfl) (fun _ _ _ h => h) (Or.inl ⟨by rfl, ?_⟩) (by assumption) ?_
          rotate_left
          · (intro w' hSw; (try dsimp only at hSw); go_simp; try with_reducible rfl)
          try simp only [Act.put, List.setIfInBounds_toArray, List.set_cons_zero, List.set_cons_succ]
          refine wpAnyH_ready (rs := [0]) (by kernel_rfl) (by simp) ?_
          refine AllReadyH.cons (o := { dst := some 116, op := Op.call { callee := Callee.value (Operand.func 31), args := #[Operand.tmp 2], argTypes := #[55] }, type := 23, pos := _, after := #[], guard := none }) rfl (fun K hK => ?_) AllReadyH.nil
          go_simp
          refine (bytes_any w.heap.size w.heap.size _ _ HPD.out HG.out).mono ?_
          rintro e w1 ⟨g, rfl, hg, hblk, hp1, hc1⟩
          have hrd1 := HS.out.rd.chg (w' := w1) (S := (· = w.heap.size)) ⟨hc1.os, hc1.tape, hc1.output, hc1.size, hc1.block⟩ (fun ad e hp => by injection e with e; subst e; exact absurd hp (by simp; omega))
          have t1 := run_str w1 (some ⟨b, o, none⟩) 504 c bs hrd1
          have t2 := run_str w1 (some ⟨g, 0, none⟩) 504 504 (MPage.bytes ⟨num4 bs 2, a⟩) (Rd.of_blk hblk (by rw [length_u8s]; exact HG.out.length))
          have HP1 := hid hp1
          have HC1 := hid hc1
          refine hK.out _ _ t1 (fun hHeld1 => ?_)
          clear hHeld hK K hblk hp1 hc1 hrd1 s1d s1
          refine wpAnyH_mono (S' := fun w' => ((convert 23 9 (.slice (some ⟨b, o, none⟩) 504 c)).run Try.prog w' = .ok (.string ⟨(bs).toArray⟩) w') ∧ ((convert 23 9 (.slice (some ⟨g, 0, none⟩) 504 504)).run Try.prog w' = .ok (.string ⟨(MPage.bytes ⟨num4 bs 2, a⟩).toArray⟩) w')) (fun w' h => h.1) _ _ _ _ ?_
          have hHeld2 := And.intro hHeld1 t2
          try simp only [Act.put, List.setIfInBounds_toArray, List.set_cons_zero, List.set_cons_succ]
          refine wpAnyH_take (i := 1) (oi := { dst := some 117, op := Op.convert 23 9 (Operand.tmp 116), type := 9, pos := _, after := #[{ on := 0, ground := Ground.data }], guard := none }) (v := ?_) rfl (by kernel_rfl) (by kernel_rfl) (by kernel_rfl) (fun _ _ _ h => h) (Or.inl ⟨by rfl, ?_⟩) (by assumption) ?_
          rotate_left
          · (intro w' hSw; (try dsimp only at hSw); go_simp; try with_reducible rfl)
          try simp only [Act.put, List.setIfInBounds_toArray, List.set_cons_zero, List.set_cons_succ]
          refine wpAnyH_take (i := 4) (oi := { dst := some 120, op := Op.binOp BinOp.neq 9 (Operand.tmp 117) (Operand.tmp 119) 9, type := 4, pos := _, after := #[{ on := 1, ground := Ground.data }, { on := 3, ground := Ground.data }], guard := none }) (v := ?_) rfl (by kernel_rfl) (by kernel_rfl) (by kernel_rfl) (fun _ _ _ h => h) (Or.inl ⟨by rfl, ?_⟩) (by assumption) ?_
          rotate_left
          · (intro w' hSw; (try dsimp only at hSw); go_simp; try with_reducible rfl)
          try simp only [Act.put, List.setIfInBounds_toArray, List.set_cons_zero, List.set_cons_succ]
          refine wpAnyH_done (by kernel_rfl) ?_ _
          clear hHeld1 hHeld2 t1 t2
          have HB1 : Hid (Below w.heap.size w w1) := hid ((HS.out.be.drew).trans (HC1.out.below hbw (fun i hi => by omega)))
          cases d with
          | true => as_aux_lemma =>
            have hq : Hid (∀ q, ¬ Is bs q) := hid (is_not (by have := HS.out.len; omega) (fun q hq => (HS.out.is q hq)) hkN (by simpa using hd))
            clear hd
            obtain ⟨v0, v1, wc0, wc1, wf0, wf1, HBx⟩ := HP1.out.any2
            go_wp2
            go_step3
            refine And.intro rfl ?_
            show Code.wp _ _ _ _ _
            go_wp2_with fail
            rw [Exit.noGoto_ret]
            refine bodyPost_ret (results_cell2 rfl _ _ w.heap.size 55 _ _ rfl (blk_store2 _ _ HBx.out) Try.underlying55 rfl (by kernel_rfl)) rfl ?_
            have hBS := below_store2 HB1.out (Nat.le_refl _) (Nat.le_refl _) (.int .i64 0) (.slice none 0 0)
            exact ⟨by first | exact hBS | exact hBS.drew | exact hBS.drew.drew, .inr ⟨hq.out, rfl⟩⟩
          | false => as_aux_lemma =>
            have hi := hid (is_of (by have := HS.out.fit; have := HS.out.len; omega) HS.out.m480 (num4_lt bs 2) (by simpa using hd) (by rw [HS.out.len, hkN]))
            clear hd
            obtain ⟨_, lv, hb, hr⟩ := HP1.out
            obtain ⟨A3, c3, rfl, _⟩ := hr.form
            obtain ⟨wc0, wc1, wfz⟩ := blk2 hb
            have wf0 := wfz 0
            have wf1 := wfz 1
            have HBx := hid hb
            have HRx := hid (hr.chg (chg_set2 w.heap.size 0 1 (.int .i64 (num4 bs 2 : Int)) (.slice A3 (trim a).length c3)) (fun g e cs hk => by subst e; exact hk.ne_ hb (by decide) rfl) (hr.ne hb))
            clear wfz hb hr
            go_wp2_with fail
            rw [jump_ret]
            refine bodyPost_ret (results_cell2 rfl _ _ w.heap.size 55 _ _ rfl (blk_store2 _ _ HBx.out) Try.underlying55 rfl (by kernel_rfl)) rfl ?_
            exact ⟨below_store2 HB1.out (Nat.le_refl _) (Nat.le_refl _) _ _, .inl ⟨⟨num4 bs 2, a⟩, _, hi.out.2, rfl, by have := HRx.out; rw [hi.out.1] at this ⊢; exact this⟩⟩
    · as_aux_lemma =>
      have hq : Hid (∀ q, ¬ Is bs q) := hid (fun q hq => by have h1 := HN.out q hq; have h2 := hq.1.len; omega)
      obtain ⟨v0, v1, wc0, wc1, wf0, wf1, HBx⟩ := H1.out.1.any2
      go_wp2
      go_step3
      refine And.intro rfl ?_
      show Code.wp _ _ _ _ _
      go_wp2_with fail
      rw [Exit.noGoto_ret]
      refine bodyPost_ret (results_cell2 rfl _ _ w.heap.size 55 _ _ rfl (blk_store2 _ _ HBx.out) Try.underlying55 rfl (by kernel_rfl)) rfl ?_
      have hBS := below_store2 H1.out.2.1 (Nat.le_refl _) (Nat.le_refl _) (.int .i64 0) (.slice none 0 0)
      exact ⟨by first | exact hBS | exact hBS.drew | exact hBS.drew.drew, .inr ⟨hq.out, rfl⟩⟩
  · have hq : Hid (∀ q, ¬ Is bs q) := hid (fun q hq => by have := hq.len; omega)
    clear hr hn
    go_enter Try.func26, Try.ntmps26
    go_wp2_with fail
    generalize hw0 : (w.alloc (.cells #[.int .i64 0, .slice none 0 0] 55)) = W0
    have H0 := hW0 _ hw0
    clear hw0 hW0
    refine wp_scope_forward 0 rfl ?_
    obtain ⟨v0, v1, wc0, wc1, wf0, wf1, HBx⟩ := H0.out.1.any2
    go_wp2
    go_step3
    refine And.intro rfl ?_
    show Code.wp _ _ _ _ _
    go_wp2_with fail
    rw [Exit.noGoto_ret]
    refine bodyPost_ret (results_cell2 rfl _ _ w.heap.size 55 _ _ rfl (blk_store2 _ _ HBx.out) Try.underlying55 rfl (by kernel_rfl)) rfl ?_
    have hBS := below_store2 H0.out.2.1 (Nat.le_refl _) (Nat.le_refl _) (.int .i64 0) (.slice none 0 0)
    exact ⟨by first | exact hBS | exact hBS.drew | exact hBS.drew.drew, .inr ⟨hq.out, rfl⟩⟩
end Go.Proofs.Ytpdikmkhkiplbaa
