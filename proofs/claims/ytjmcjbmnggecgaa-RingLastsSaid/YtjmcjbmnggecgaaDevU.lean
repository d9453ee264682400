/- A device that works (no fuse, not dead): the contracts of its methods in short; strings of bytes; the plain law of what outlasts a crash. -/
import Derived.Test.YtjmcjbmnggecgaaDevA
namespace Go.Proofs.Ytjmcjbmnggecgaa
open Go.RowKit
set_option maxRecDepth 100000

def Up (w : World) (D : Nat) (F G : Nat → Prop) (l : List (List UInt8)) (W : List (Nat × List UInt8)) : Prop := ∃ m, DevAt w D F G m ∧ m.l = l ∧ m.W = W ∧ m.dead = false ∧ m.fuse = -1

section
variable {w : World} {D : Nat} {F G : Nat → Prop} {l : List (List UInt8)} {W : List (Nat × List UInt8)}
theorem Up.lt (h : Up w D F G l W) : (∀ i, F i → i < w.heap.size) ∧ (∀ i, G i → i < w.heap.size) ∧ F D := by
  obtain ⟨m, h, _⟩ := h; exact ⟨h.lt, h.lg, h.own⟩
theorem Up.below {w' : World} (h : Up w D F G l W) (hb : Below w.heap.size w w') : Up w' D F G l W := by
  obtain ⟨m, h, r⟩ := h; exact ⟨m, h.below hb, r⟩
theorem Up.frame {w' : World} {S : Nat → Prop} (h : Up w D F G l W) (hc : Chg S w w') (hS : ∀ i, S i → ¬ F i ∧ ¬ G i) : Up w' D F G l W := by
  obtain ⟨m, h, r⟩ := h; exact ⟨m, h.frame hc hS, r⟩
end

theorem write_up (D : Nat) (F G : Nat → Prop) (l : List (List UInt8)) (W : List (Nat × List UInt8)) (w : World) (h : Up w D F G l W) (i : Nat) (A : Option Addr) (c : Nat) (bs : List UInt8) (h1 : i < l.length) (hr : Rd w 1 A 128 (u8s bs)) (hA : ∀ ad, A = some ad → ¬ ad.block = D) (hW : W.length ≤ 1000000) :
    Calls Try.prog 12 #[.pointer (some ⟨D, 0, none⟩), .int .i64 i, .slice A 128 c] w fun e w' => e = .returned (.int .i64 0) ∧ ∃ F' G', Up w' D F' G' l (W ++ [(i, bs)]) ∧ (∀ i, F' i → F i ∨ w.heap.size ≤ i) ∧ (∀ i, G' i → G i ∨ w.heap.size ≤ i) ∧ Chg F w w' := by
  obtain ⟨m, h, rfl, rfl, hd, hf⟩ := h
  refine (write_ok D F G m w h i A c bs hd h1 (by rw [hf]; decide) hr hA hW).mono ?_
  rintro e w' ⟨rfl, F', G', h', a, b, c⟩
  exact ⟨rfl, F', G', ⟨_, h', rfl, rfl, hd, by simp [MDev.lit, hf]⟩, a, b, c⟩

theorem sync_up (D : Nat) (F G : Nat → Prop) (l : List (List UInt8)) (W : List (Nat × List UInt8)) (w : World) (h : Up w D F G l W) (hW : W.length ≤ 1000000) :
    Calls Try.prog 14 #[.pointer (some ⟨D, 0, none⟩)] w fun e w' => e = .returned (.int .i64 0) ∧ Up w' D F G (applyW l W) [] ∧ Chg F w w' := by
  obtain ⟨m, h, rfl, rfl, hd, hf⟩ := h
  refine (sync_ok D F G m w h hd (by rw [hf]; decide) hW).mono ?_
  rintro e w' ⟨rfl, h', c⟩
  exact ⟨rfl, ⟨_, h', rfl, rfl, hd, by simp [MDev.lit, hf]⟩, c⟩

theorem crash_up (D : Nat) (F G : Nat → Prop) (l : List (List UInt8)) (W : List (Nat × List UInt8)) (w : World) (h : Up w D F G l W) (hW : W.length ≤ 1000000) (KA : Option Addr) (kc : Nat) (ks : List Bool) (hr : Rd w 1 KA ks.length (bls ks)) (hA : 0 < ks.length → ∀ ad, KA = some ad → ¬ F ad.block) (hks : ks.length ≤ 9223372036854775807) :
    Calls Try.prog 15 #[.pointer (some ⟨D, 0, none⟩), .slice KA ks.length kc] w fun e w' => e = .returned (.tuple #[]) ∧ Up w' D F G (applyK l W ks W.length) [] ∧ Chg F w w' := by
  obtain ⟨m, h, rfl, rfl, hd, hf⟩ := h
  refine (crash_any D F G m w h hW KA kc ks hr hA hks).mono ?_
  rintro e w' ⟨rfl, h', c⟩
  exact ⟨rfl, ⟨_, h', rfl, rfl, rfl, rfl⟩, c⟩

theorem read_up (D : Nat) (F G : Nat → Prop) (l : List (List UInt8)) (W : List (Nat × List UInt8)) (w : World) (h : Up w D F G l W) (i : Nat) (hi : i < l.length) (hW : W.length ≤ 1000000) :
    Calls Try.prog 16 #[.pointer (some ⟨D, 0, none⟩), .int .i64 i] w fun e w' => ∃ g, e = .returned (.tuple #[.slice (some ⟨g, 0, none⟩) 128 128, .int .i64 0]) ∧ w.heap.size ≤ g ∧ Blk w' g 5 (u8s (getW (l.getD i []) W i)).toArray ∧ Up w' D F G l W ∧ Chg (· = D) w w' := by
  obtain ⟨m, h, rfl, rfl, hd, hf⟩ := h
  refine (read_ok D F G m w h i hd hi hW).mono ?_
  rintro e w' ⟨g, rfl, hg, hb, h', c⟩
  exact ⟨g, rfl, hg, hb, ⟨_, h', rfl, rfl, hd, hf⟩, c⟩

theorem pending_up (D : Nat) (F G : Nat → Prop) (l : List (List UInt8)) (W : List (Nat × List UInt8)) (w : World) (h : Up w D F G l W) : Calls Try.prog 17 #[.pointer (some ⟨D, 0, none⟩)] w fun e w' => e = .returned (.int .i64 W.length) ∧ w = w' := by
  obtain ⟨m, h, rfl, rfl, hd, hf⟩ := h
  exact pending_any D F G m w h

theorem new_up (n : Nat) (w : World) (h1 : 1 ≤ n) (h2 : n ≤ 8192) : Calls Try.prog 11 #[.int .i64 n] w fun e w' => ∃ D F G, e = .returned (.tuple #[.pointer (some ⟨D, 0, none⟩), .int .i64 0]) ∧ Up w' D F G (List.replicate n zeros) [] ∧ (∀ i, F i ∨ G i → w.heap.size ≤ i) ∧ Below w.heap.size w w' := by
  refine (new_ok n w h1 h2).mono ?_
  rintro e w' ⟨D, F, G, rfl, h, a, b⟩
  exact ⟨D, F, G, rfl, ⟨_, h, rfl, rfl, rfl, rfl⟩, a, b⟩

/-! ### strings of bytes -/
theorem run_str (w : World) (A : Option Addr) (n c : Nat) (bs : List UInt8) (h : Rd w 1 A n (u8s bs)) : (convert 30 9 (.slice A n c)).run Try.prog w = .ok (.string ⟨bs.toArray⟩) w := by
  have hl := h.1
  rw [length_u8s, Nat.mul_one] at hl
  subst hl
  cases A with
  | none =>
    have h0 : bs = [] := by
      rcases Nat.eq_zero_or_pos bs.length with h0 | h0
      · exact List.eq_nil_of_length_eq_zero h0
      · obtain ⟨ad, e, _⟩ := h.2 h0; cases e
    subst h0
    rw [List.length_nil, run_convert_bytes_string w 30 9 5 none 0 c Try.underlying30 Try.underlying5 Try.underlying9]
    simp [Conv.bytesToString]
    rfl
  | some a =>
    refine run_convert_bytes_back w 30 9 5 a c bs Try.underlying30 Try.underlying5 Try.underlying9 ?_
    intro j hj
    obtain ⟨ad, e, _, hc⟩ := h.2 (by omega)
    injection e with e
    subst e
    exact hc j _ (by simp [u8s, hj])

theorem and7 (x : Int) : bits .and .i64 x 7 = (((x % 8).toNat : Nat) : Int) := by
  have h : (BitVec.ofInt 64 x &&& BitVec.ofInt 64 7).toNat = (x % 8).toNat := by
    rw [BitVec.toNat_and, BitVec.toNat_ofInt, show (BitVec.ofInt 64 7).toNat = 2 ^ 3 - 1 from rfl, Nat.and_two_pow_sub_one_eq_mod]
    omega
  show IntKind.i64.wrap ((BitVec.ofInt 64 x &&& BitVec.ofInt 64 7).toNat : Int) = _
  rw [h, IntKind.wrap_i64]
  have : (x % 8).toNat < 8 := by omega
  omega

def sidx (x : Int) : Nat := (x % 8).toNat
theorem sidx_lt (x : Int) : sidx x < 8 := by unfold sidx; omega

/-- the writes of a list of numbers, up to the k-th -/
def wl (f : Nat → List UInt8) (xs : List Int) (k : Nat) : List (Nat × List UInt8) := (List.range k).map fun i => (sidx (xs.getD i 0), f i)
theorem wl_succ (f : Nat → List UInt8) (xs : List Int) (k : Nat) : wl f xs (k + 1) = wl f xs k ++ [(sidx (xs.getD k 0), f k)] := by simp [wl, List.range_succ]
theorem wl_length (f : Nat → List UInt8) (xs : List Int) (k : Nat) : (wl f xs k).length = k := by simp [wl]

/-- the last write to a sector, and one more -/
def lastOf (xs : List Int) : Nat → Nat → Int
  | 0, _ => 0
  | k + 1, s => if sidx (xs.getD k 0) = s then (k : Int) + 1 else lastOf xs k s
theorem lastOf_bd (xs : List Int) (k s : Nat) : 0 ≤ lastOf xs k s ∧ lastOf xs k s ≤ k := by
  induction k with
  | zero => simp [lastOf]
  | succ k ih => simp only [lastOf]; split <;> omega

def old (x : Int) : List UInt8 := if 0 < x then sector 1 x else zeros
theorem synced (xs : List Int) (k s : Nat) (hs : s < 8) : (applyW (List.replicate 8 zeros) (wl (fun i => sector 1 ((i : Int) + 1)) xs k)).getD s [] = old (lastOf xs k s) := by
  induction k with
  | zero =>
    have e : applyW (List.replicate 8 zeros) (wl (fun i => sector 1 ((i : Int) + 1)) xs 0) = List.replicate 8 zeros := rfl
    rw [e, List.getD_eq_getElem?_getD, List.getElem?_replicate, if_pos hs]; rfl
  | succ k ih =>
    rw [wl_succ, applyW_snoc]
    simp only [lastOf]
    have hl : (applyW (List.replicate 8 zeros) (wl (fun i => sector 1 ((i : Int) + 1)) xs k)).length = 8 := by rw [applyW_length]; simp
    by_cases h : sidx (xs.getD k 0) = s
    · rw [if_pos h, List.getD_eq_getElem?_getD, h, List.getElem?_set_self (by omega)]
      unfold old
      rw [if_pos (by omega)]; rfl
    · rw [if_neg h, List.getD_eq_getElem?_getD, List.getElem?_set_ne h, ← List.getD_eq_getElem?_getD, ih]

theorem applyK_length (l : List (List UInt8)) (W : List (Nat × List UInt8)) (ks : List Bool) (k : Nat) (hk : k ≤ W.length) : (applyK l W ks k).length = l.length := by
  induction k with
  | zero => rfl
  | succ k ih =>
    have he : W[k]? = some W[k] := List.getElem?_eq_getElem (by omega)
    cases hb : ks.getD k false
    · rw [applyK_no _ _ _ _ hb]; exact ih (by omega)
    · rw [applyK_yes _ _ _ _ _ he hb, List.length_set]; exact ih (by omega)

/-- behind a crash a sector is what it was, or one of the writes that are kept -/
theorem crashed (l : List (List UInt8)) (ys : List Int) (ks : List Bool) (f : Nat → List UInt8) (n s : Nat) (k : Nat) (hk : k ≤ n) (hs : s < l.length) :
    (applyK l (wl f ys n) ks k).getD s [] = l.getD s [] ∨ ∃ i, i < k ∧ sidx (ys.getD i 0) = s ∧ ks.getD i false = true ∧ (applyK l (wl f ys n) ks k).getD s [] = f i := by
  induction k with
  | zero => exact .inl rfl
  | succ k ih =>
    have he : (wl f ys n)[k]? = some (sidx (ys.getD k 0), f k) := by
      unfold wl
      rw [List.getElem?_map, List.getElem?_range (by omega)]; rfl
    have hl := applyK_length l (wl f ys n) ks k (by rw [wl_length]; omega)
    cases hb : ks.getD k false
    · rw [applyK_no _ _ _ _ hb]
      exact (ih (by omega)).imp id fun ⟨i, a, b⟩ => ⟨i, by omega, b⟩
    · rw [applyK_yes _ _ _ _ _ he hb]
      by_cases h : sidx (ys.getD k 0) = s
      · refine .inr ⟨k, by omega, h, hb, ?_⟩
        rw [List.getD_eq_getElem?_getD, h, List.getElem?_set_self (by omega)]; rfl
      · have e : ((applyK l (wl f ys n) ks k).set (sidx (ys.getD k 0)) (f k)).getD s [] = (applyK l (wl f ys n) ks k).getD s [] := by
          rw [List.getD_eq_getElem?_getD, List.getElem?_set_ne h, ← List.getD_eq_getElem?_getD]
        simp only [e]
        exact (ih (by omega)).imp id fun ⟨i, a, b⟩ => ⟨i, by omega, b⟩
end Go.Proofs.Ytjmcjbmnggecgaa
