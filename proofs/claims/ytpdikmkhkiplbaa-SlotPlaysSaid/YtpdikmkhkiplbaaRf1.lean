/- The document's small functions: two, four, get, size. Conditions: sizes. -/
import Derived.Test.YtpdikmkhkiplbaaFil
namespace Go.Proofs.Ytpdikmkhkiplbaa
open Go.RowKit
set_option maxRecDepth 100000
set_option linter.unusedVariables false
set_option linter.unusedSimpArgs false

/-- a slot as the document keeps it: whether it has a record, and the record -/
def sv (x : Option (List UInt8)) : List Value := [.bool x.isSome, .string ⟨(x.getD []).toArray⟩]
def scs (l : Recs) : List Value := l.flatMap sv
theorem length_scs (l : Recs) : (scs l).length = l.length * 2 := by
  induction l with
  | nil => rfl
  | cons x l ih => rw [show scs (x :: l) = sv x ++ scs l from rfl, List.length_append, ih]; simp [sv]; omega
theorem scs_append (a b : Recs) : scs (a ++ b) = scs a ++ scs b := by simp [scs]
theorem scs_at (l : Recs) (k : Nat) (x : Option (List UInt8)) (h : l[k]? = some x) : (scs l)[k * 2]? = some (.bool x.isSome) ∧ (scs l)[k * 2 + 1]? = some (.string ⟨(x.getD []).toArray⟩) := by
  induction l generalizing k with
  | nil => simp at h
  | cons y l ih =>
    rw [show scs (y :: l) = sv y ++ scs l from rfl]
    cases k with
    | zero => simp at h; subst h; exact ⟨rfl, rfl⟩
    | succ k =>
      have hi := ih k (by simpa using h)
      refine ⟨?_, ?_⟩
      · rw [List.getElem?_append_right (by simp [sv]; omega)]
        have : (k + 1) * 2 - (sv y).length = k * 2 := by simp [sv]; omega
        rw [this]; exact hi.1
      · rw [List.getElem?_append_right (by simp [sv]; omega)]
        have : (k + 1) * 2 + 1 - (sv y).length = k * 2 + 1 := by simp [sv]; omega
        rw [this]; exact hi.2
theorem scs_one (l : Recs) : ∀ u ∈ scs l, u.oneCell' = true := by
  intro u hu
  obtain ⟨x, _, hx⟩ := List.mem_flatMap.1 hu
  simp only [sv, List.mem_cons, List.not_mem_nil, or_false] at hx
  rcases hx with rfl | rfl <;> rfl
/-- a row of the document's slots reads as a list of records -/
def SRd (w : World) (A : Option Addr) (l : Recs) : Prop := ∀ k x, l[k]? = some x → ∃ b o, A = some ⟨b, o, none⟩ ∧ b < w.heap.size ∧ w.cell? ⟨b, o + k * 2, none⟩ = some (.bool x.isSome) ∧ w.cell? ⟨b, o + k * 2 + 1, none⟩ = some (.string ⟨(x.getD []).toArray⟩)
theorem SRd.below {w w' : World} {A : Option Addr} {l : Recs} (h : SRd w A l) (hb : Below w.heap.size w w') : SRd w' A l := by
  intro k x hx
  obtain ⟨b, o, rfl, hlt, h1, h2⟩ := h k x hx
  exact ⟨b, o, rfl, Nat.lt_of_lt_of_le hlt hb.size, (hb.cell (p := ⟨b, o + k * 2, none⟩) hlt).trans h1, (hb.cell (p := ⟨b, o + k * 2 + 1, none⟩) hlt).trans h2⟩
theorem SRd.of_own {w : World} {base c : Nat} {A : Option Addr} {l : Recs} (h : w.ownsRow base 70 2 (.slice A l.length c) l.length (scs l)) : SRd w A l := by
  intro k x hx
  have hk := (List.getElem?_eq_some_iff.1 hx).1
  obtain ⟨g, cap, hv, _, hlt⟩ := h.form (by omega)
  injection hv with hA _ _
  subst hA
  have hc := h.cells (g := g) rfl
  obtain ⟨h1, h2⟩ := scs_at l k x hx
  refine ⟨g, 0, rfl, hlt, ?_, ?_⟩
  · have := hc (k * 2) _ h1
    rwa [Addr.add_lit] at this
  · have := hc (k * 2 + 1) _ h2
    rw [Addr.add_lit] at this
    rw [show 0 + k * 2 + 1 = 0 + (k * 2 + 1) by omega]
    exact this

set_option maxHeartbeats 1600000 in
theorem two_any (n : Nat) (hn : n < 65536) (w : World) : Calls Try.prog 44 #[.int .i64 n] w fun e w' => e = .returned (.slice (some ⟨w.heap.size, 0, none⟩) 2 2) ∧ Blk w' w.heap.size 5 (u8s (two n)).toArray ∧ Below w.heap.size w w' := by
  have hb := Blk.new w 5 #[.int .u8 ((n : Int) / 256), .int .u8 ((n : Int) % 256)]
  have e := u8s_two n ((n : Int) / 256) ((n : Int) % 256) (by omega) (by omega)
  have hB : Blk (w.alloc (.cells #[.int .u8 ((n : Int) / 256), .int .u8 ((n : Int) % 256)] 5)) w.heap.size 5 (u8s (two n)).toArray := by rw [e]; exact hb
  have HB := hid hB
  clear hb e hB
  go_enter Try.func44, Try.ntmps44
  go_wp2
  go_ret
  exact ⟨rfl, HB.out, (Below.refl _ _).alloc (Nat.le_refl _) _⟩
set_option maxHeartbeats 1600000 in
theorem four_any (n : Nat) (hn : n < 4294967296) (w : World) : Calls Try.prog 45 #[.int .i64 n] w fun e w' => e = .returned (.slice (some ⟨w.heap.size, 0, none⟩) 4 4) ∧ Blk w' w.heap.size 5 (u8s (four n)).toArray ∧ Below w.heap.size w w' := by
  have e := u8s_four n ((n : Int) / 16777216) ((n : Int) / 65536 % 256) ((n : Int) / 256 % 256) ((n : Int) % 256) (by omega) (by omega) (by omega) (by omega)
  have hb := Blk.new w 5 #[.int .u8 ((n : Int) / 16777216), .int .u8 ((n : Int) / 65536 % 256), .int .u8 ((n : Int) / 256 % 256), .int .u8 ((n : Int) % 256)]
  have hB : Blk (w.alloc (.cells #[.int .u8 ((n : Int) / 16777216), .int .u8 ((n : Int) / 65536 % 256), .int .u8 ((n : Int) / 256 % 256), .int .u8 ((n : Int) % 256)] 5)) w.heap.size 5 (u8s (four n)).toArray := by rw [e]; exact hb
  have HB := hid hB
  clear hb e hB
  go_enter Try.func45, Try.ntmps45
  go_wp2
  go_ret
  exact ⟨rfl, HB.out, (Below.refl _ _).alloc (Nat.le_refl _) _⟩

/-- a number out of bytes, the highest first -/
def beN (bs : List UInt8) : Nat := bs.foldl (fun n b => 256 * n + b.toNat) 0
theorem beN_snoc (bs : List UInt8) (b : UInt8) : beN (bs ++ [b]) = 256 * beN bs + b.toNat := by simp [beN]
theorem beN_lt (bs : List UInt8) : beN bs < 256 ^ bs.length := by
  generalize hn : bs.length = n
  induction n generalizing bs with
  | zero => have : bs = [] := List.eq_nil_of_length_eq_zero hn
            subst this; simp [beN]
  | succ n ih =>
    rcases List.eq_nil_or_concat bs with rfl | ⟨a, b, rfl⟩
    · simp at hn
    · have e : a.concat b = a ++ [b] := by simp
      rw [e] at hn ⊢
      rw [beN_snoc]
      have h1 := ih a (by simpa using hn)
      have h2 := b.toNat_lt
      rw [Nat.pow_succ]
      omega
theorem beN_take (bs : List UInt8) (k : Nat) (h : k < bs.length) : beN (bs.take (k + 1)) = 256 * beN (bs.take k) + (bs[k]'h).toNat := by
  rw [List.take_succ_eq_append_getElem h, beN_snoc]
theorem pow_le4 (k : Nat) (h : k ≤ 4) : 256 ^ k ≤ 4294967296 := Nat.le_trans (Nat.pow_le_pow_right (by omega) h) (by decide)
set_option maxHeartbeats 1600000 in
theorem getn_any (A : Option Addr) (n c : Nat) (bs : List UInt8) (w : World) (hr : Rd w 1 A n (u8s bs)) (hn : n = bs.length) (h4 : n ≤ 4) :
    Calls Try.prog 46 #[.slice A n c] w fun e w' => e = .returned (.int .i64 (beN bs)) ∧ w' = w := by
  have HR := hid hr
  have Hn := hid hn
  clear hr hn
  go_enter Try.func46, Try.ntmps46
  go_wp2_with fail
  go_loopw [3, 4] (fun v i wr => wr = w ∧ ∃ k : Nat, k ≤ n ∧ i = .int .i64 k ∧ v = .int .i64 (beN (bs.take k))) (fun _ i _ => n - (intOf i).toNat)
  case atStart => exact ⟨rfl, 0, by omega, rfl, rfl⟩
  case round =>
    obtain ⟨rfl, k, hk, rfl, rfl⟩ := hrel
    by_cases hlt : k < n
    · obtain ⟨b, o, rfl, hb, hcs⟩ := HR.out.lit (by omega)
      have hkb : k < bs.length := by have := Hn.out; omega
      have hcell := hcs k (.int .u8 ((bs[k]'hkb).toNat : Int)) (by simp [u8s, List.getElem?_eq_getElem hkb])
      have hst := hid (beN_take bs k hkb)
      have hx := (bs[k]'hkb).toNat_lt
      have hlt' : (k : Int) < (n : Int) := by omega
      have hbe := beN_lt (bs.take k)
      have hpw := pow_le4 ((bs.take k).length) (by rw [List.length_take]; omega)
      have hbd : beN (bs.take k) < 4294967296 := by omega
      clear hcs hbe hpw
      obtain ⟨x, hxe⟩ : ∃ x, x = (bs[k]'hkb).toNat := ⟨_, rfl⟩
      rw [← hxe] at hcell hst hx
      clear hxe
      go_wp2
      go_roundw
      case rel => exact ⟨by first | rfl | trivial, k + 1, by omega, by go_num, by rw [hst.out]; congr 1⟩
      case measure => simp [intOf]; omega
    · have hkn : Hid (bs.take k = bs) := hid (List.take_of_length_le (by have := Hn.out; omega))
      have hlt' : ¬ ((k : Int) < (n : Int)) := by omega
      go_wp2
      go_ret
      exact ⟨by rw [hkn.out]; rfl, rfl⟩

set_option maxHeartbeats 1600000 in
theorem size_any (A : Option Addr) (c : Nat) (l : Recs) (w : World) (h : SRd w A l) (hl : l.length ≤ 1000) (hs : sum l ≤ 1000000000) :
    Calls Try.prog 47 #[.slice A l.length c] w fun e w' => e = .returned (.int .i64 (6 + 4 * (l.length : Int) + (sum l : Int))) ∧ w' = w := by
  have H := hid h
  clear h
  go_enter Try.func47, Try.ntmps47
  go_wp2_with fail
  go_loopw [3, 4] (fun v i wr => wr = w ∧ ∃ k : Nat, k ≤ l.length ∧ i = .int .i64 k ∧ v = .int .i64 (6 + 4 * (l.length : Int) + (sum (l.take k) : Int))) (fun _ i _ => l.length - (intOf i).toNat)
  case atStart => exact ⟨rfl, 0, by omega, rfl, by simp [sum]⟩
  case round =>
    obtain ⟨rfl, k, hk, rfl, rfl⟩ := hrel
    have hst := sum_take l k
    by_cases hlt : k < l.length
    · obtain ⟨x, hx⟩ : ∃ x, l[k]? = some x := ⟨_, List.getElem?_eq_getElem hlt⟩
      obtain ⟨b, o, rfl, hb, h1, h2⟩ := H.out k x hx
      have hsl : Hid (sum (l.take (k + 1)) = sum (l.take k) + (x.getD []).length) := hid (by
        have h1 := sum_le l k hlt
        have h2 : l[k] = x := by rw [List.getElem?_eq_getElem hlt] at hx; injection hx
        rw [h2] at h1
        exact h1)
      have hxs : (x.getD []).length ≤ 1000000000 := by have := hsl.out; have := sum_take l (k + 1); omega
      have hlt' : (k : Int) < (l.length : Int) := by omega
      clear hx
      go_wp2
      go_roundw
      case rel => exact ⟨by first | rfl | trivial, k + 1, by omega, by go_num, by rw [hsl.out]; congr 1; omega⟩
      case measure => simp [intOf]; omega
    · have hkl : k = l.length := by omega
      subst hkl
      rw [List.take_length] at *
      have hlt' : ¬ ((l.length : Int) < (l.length : Int)) := by omega
      go_wp2
      go_ret
      exact ⟨rfl, rfl⟩
end Go.Proofs.Ytpdikmkhkiplbaa
