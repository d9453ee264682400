/- RingRounds and RingLasts: what lies on the device behind a flush, in plain Lean. Conditions: sizes. -/
import Derived.Test.YtjmcjbmnggecgaaRgV
namespace Go.Proofs.Ytjmcjbmnggecgaa
open Go.RowKit
set_option maxRecDepth 100000
set_option linter.unusedVariables false
set_option linter.unusedSimpArgs false

theorem and255 (x : Int) : bits .and .i64 x 255 = (((x % 256).toNat : Nat) : Int) := by
  have h : (BitVec.ofInt 64 x &&& BitVec.ofInt 64 255).toNat = (x % 256).toNat := by
    rw [BitVec.toNat_and, BitVec.toNat_ofInt, show (BitVec.ofInt 64 255).toNat = 2 ^ 8 - 1 from rfl, Nat.and_two_pow_sub_one_eq_mod]
    omega
  show IntKind.i64.wrap ((BitVec.ofInt 64 x &&& BitVec.ofInt 64 255).toNat : Int) = _
  rw [h, IntKind.wrap_i64]
  have : (x % 256).toNat < 256 := by omega
  omega

theorem u8s_drop (xs : List UInt8) (k : Nat) : u8s (xs.drop k) = (u8s xs).drop k := by simp [u8s, List.map_drop]
/-- a slice from its k-th byte on -/
theorem sl_from0 {n c : Nat} (A : Option Addr) (xs : List Value) (k : Nat) (hk : k ≤ n) (hc : n ≤ c) :
    ∃ A', (∀ W : World, (Instr.slice 30 (.slice A n c) (some (.int .i64 (k : Int))) none none).run Try.prog W = .ok (.slice A' (n - k) (c - k)) W) ∧ ∀ w' : World, Rd w' 1 A n xs → Rd w' 1 A' (n - k) (xs.drop k) := by
  obtain ⟨i0, hi, hz0, hz1, hz2⟩ := info_parts info5
  refine ⟨if c = k then A else A.map (·.add k), fun W => ?_, fun w' hr => ⟨?_, fun hn => ?_⟩⟩
  · have hk' : (k : Int) ≤ (n : Int) := by omega
    simp [Instr.slice, Instr.sliceBounds, Instr.sliceBound, asIntOf, run_underlying Try.underlying30, sizeOf, typeInfo, hi, hz1, hk']
    intro hc'; omega
  · have hl := hr.1
    simp; omega
  · obtain ⟨ad, rfl, hlt, hcs⟩ := hr.2 (by omega)
    rw [if_neg (by omega)]
    refine ⟨ad.add k, rfl, by rw [block_of_add]; exact hlt, fun j u hu => ?_⟩
    rw [add_of_add]
    exact hcs _ u (by simpa using hu)

section
variable {l : List (List UInt8)} {fr n start : Nat} {all d : List UInt8}
/-- an opened ring with d laid behind -/
def laid (fr n start : Nat) (all d : List UInt8) : MRing := { opened fr n start all with bytes := (opened fr n start all).bytes ++ d }
theorem laid_bytes (h : start ≤ all.length) : (laid fr n start all d).bytes = (all ++ d).drop (start / 118 * 118) := by
  show all.drop (start / 118 * 118) ++ d = _
  rw [List.drop_append_of_le_length (by omega)]
theorem laid_tail (h : start ≤ all.length) : (laid fr n start all d).tail = (all ++ d).length := by
  show start / 118 * 118 + (laid fr n start all d).bytes.length = _
  rw [laid_bytes h, List.length_drop, List.length_append]
  omega
theorem laid_read (h : start ≤ all.length) : ((laid fr n start all d).bytes.drop (start - start / 118 * 118)).take ((all ++ d).length - start) = (all ++ d).drop start := by
  rw [laid_bytes h, List.drop_drop, show start / 118 * 118 + (start - start / 118 * 118) = start by omega, List.take_of_length_le (by rw [List.length_drop]; exact Nat.le_refl _)]
theorem laid_nil (h : start ≤ all.length) : laid fr n start all [] = opened fr n start all := by
  unfold laid
  rw [List.append_nil]
theorem inv_flushed (h : RInv l fr n start all) (hc : (all ++ d).length ≤ (start / 118 + n - 1) * 118) (hb : fr + n ≤ l.length) (hz : (all ++ d).length < 100000000000000) : RInv (flushed (laid fr n start all d) l (all ++ d)) fr n start (all ++ d) := by
  by_cases hd : d = []
  · subst hd
    have e : (laid fr n start all []).fin = (laid fr n start all []).tail := by
      rw [laid_tail h.st, List.append_nil]; rfl
    rw [flushed, if_pos e, List.append_nil]
    exact h
  · have h0 : 0 < d.length := List.length_pos_iff.2 hd
    have e : ¬ (laid fr n start all d).fin = (laid fr n start all d).tail := by
      rw [laid_tail h.st, List.length_append]
      show ¬ all.length = _
      omega
    rw [flushed, if_neg e]
    exact h.flushed hd hc hb hz
end

/-- a ring before or behind its flush, with a slice that was read of it -/
def RdF (w w0 : World) (R D : Nat) (B : Nat → Prop) (q : MRing) (l : List (List UInt8)) (st : List UInt8) (v : Value) (all : List UInt8) (vx : Value) (x : List UInt8) (done : Bool) (wr : World) : Prop :=
  ∃ F G, RV w wr R D (if done then { q with fin := q.tail } else q) (if done then flushed q l st else l) v all F G B ∧ Mine w0 wr (fun i => F i ∨ G i ∨ B i) vx x
section
variable {w w0 wr w2 : World} {R D : Nat} {B : Nat → Prop} {q : MRing} {l : List (List UInt8)} {st all x : List UInt8} {v vx : Value} {done : Bool}
theorem RdF.drew (h : RdF w w0 R D B q l st v all vx x done wr) : RdF w w0 R D B q l st v all vx x done wr.drew := by
  obtain ⟨F, G, h1, h2⟩ := h
  exact ⟨F, G, h1.below (Below.refl _ _).drew, h2.below (Below.refl _ _).drew⟩
theorem RdF.flush (h : RdF w w0 R D B q l st v all vx x done wr) (hall : q.bytes = st.drop q.base) (hta : q.tail = st.length) :
    Calls Try.prog 35 #[.pointer (some ⟨R, 0, none⟩)] wr fun e w' => e = .returned (.int .i64 0) ∧ RdF w w0 R D B q l st v all vx x true w' := by
  obtain ⟨F, G, h1, h2⟩ := h
  cases done with
  | false =>
    refine (rv_flush h1 st hall hta).mono ?_
    rintro e w' ⟨rfl, F', G', h3, h4⟩
    exact ⟨rfl, F', G', h3, h4 _ _ _ h2⟩
  | true =>
    have h1' : RV w wr R D { q with fin := q.tail } (flushed q l st) v all F G B := h1
    have e1 : flushed { q with fin := q.tail } (flushed q l st) st = flushed q l st := if_pos rfl
    refine (rv_flush h1' st hall hta).mono ?_
    rintro e w' ⟨rfl, F', G', h3, h4⟩
    rw [e1] at h3
    exact ⟨rfl, F', G', h3, h4 _ _ _ h2⟩
theorem RdF.str {A : Option Addr} {n c : Nat} (h : RdF w w0 R D B q l st v all (.slice A n c) x done wr) : (convert 30 9 (.slice A n c)).run Try.prog wr = .ok (.string ⟨x.toArray⟩) wr := by
  obtain ⟨F, G, h1, h2⟩ := h
  obtain ⟨rfl, h3⟩ := h2.rd
  exact run_str wr A _ c x h3
theorem RdF.own {A : Option Addr} {n c : Nat} (h : RdF w w0 R D B q l st (.slice A n c) all vx x done wr) : n = all.length ∧ Rd wr 1 A n (u8s all) := by
  obtain ⟨F, G, h1, h2⟩ := h
  exact h1.my.rd
end
/-- RingRounds between two rounds -/
structure RdS (w wr : World) (D k start : Nat) (l : List (List UInt8)) (v : Value) (all : List UInt8) (F G : Nat → Prop) : Prop where
  ra : RA w wr D l v all F G
  inv : RInv l 2 8 start all
  len : l.length = 12
  near : all.length ≤ start + 255
  small : all.length ≤ 300 * k
theorem RdS.room {w wr : World} {D k start : Nat} {l : List (List UInt8)} {v : Value} {all : List UInt8} {F G : Nat → Prop} (h : RdS w wr D k start l v all F G) : 300 ≤ (opened 2 8 start all).room := by
  have h1 := h.near
  have h2 := opened_tail (fr := 2) (n := 8) h.inv.st
  have e : (opened 2 8 start all).room = (start / 118 + 8 - 1) * 118 - (opened 2 8 start all).tail := rfl
  rw [e, h2]
  omega
theorem RdS.next {w wr w2 : World} {D k start start' R : Nat} {l : List (List UInt8)} {v v2 : Value} {all d : List UInt8} {F G F2 G2 B : Nat → Prop} {q : MRing} (h : RdS w wr D k start l v all F G) (hd : d.length ≤ 300) (hk : k ≤ 60)
    (h2 : RV w w2 R D q (flushed (laid 2 8 start all d) l (all ++ d)) v2 (all ++ d) F2 G2 B) (h3 : start ≤ start') (h4 : start' ≤ (all ++ d).length) (h5 : (all ++ d).length ≤ start' + 255) :
    RdS w w2 D (k + 1) start' (flushed (laid 2 8 start all d) l (all ++ d)) v2 (all ++ d) F2 G2 := by
  have h6 := h.near
  have h7 := h.small
  have h8 := h.len
  have h9 : (all ++ d).length = all.length + d.length := List.length_append
  refine ⟨h2.ra, (inv_flushed h.inv (by omega) (by omega) (by omega)).later h3 h4, by rw [flushed_length]; exact h8, h5, by omega⟩
end Go.Proofs.Ytjmcjbmnggecgaa
