/- A ring's calls with only its tail, its room and its end told. Conditions: sizes. -/
import Derived.Test.YtjmcjbmnggecgaaRgX
namespace Go.Proofs.Ytjmcjbmnggecgaa
open Go.RowKit
set_option maxRecDepth 100000
set_option linter.unusedVariables false
set_option linter.unusedSimpArgs false

/-- a ring of the law's own, over some device -/
def RX (w wr : World) (R D : Nat) (q : MRing) : Prop := ∃ F G B l, RL w wr R D F G B q l
section
variable {w wr w2 : World} {R D : Nat} {q : MRing}
theorem RX.be (h : RX w wr R D q) : Below w.heap.size w wr := by obtain ⟨F, G, B, l, h⟩ := h; exact h.be
theorem RX.ok (h : RX w wr R D q) : QOk q := by obtain ⟨F, G, B, l, h⟩ := h; exact h.ok
theorem RX.below (h : RX w wr R D q) (hb : Below wr.heap.size wr w2) : RX w w2 R D q := by obtain ⟨F, G, B, l, h⟩ := h; exact ⟨F, G, B, l, h.below hb⟩
theorem RX.drewN (h : RX w wr R D q) (n : Nat) : RX w (wr.drewN n) R D q := h.below (below_drewN (Below.refl _ _) n)
theorem rx_room (h : RX w wr R D q) : Calls Try.prog 32 #[.pointer (some ⟨R, 0, none⟩)] wr fun e w' => e = .returned (.int .i64 q.room) ∧ ∃ m, w' = wr.drewN m := by
  obtain ⟨F, G, B, l, h⟩ := h
  exact room_any R D B q wr h.mem h.ok
theorem rx_tail (h : RX w wr R D q) : Calls Try.prog 33 #[.pointer (some ⟨R, 0, none⟩)] wr fun e w' => e = .returned (.int .i64 q.tail) ∧ ∃ m, w' = wr.drewN m := by
  obtain ⟨F, G, B, l, h⟩ := h
  exact tail_any R D B q wr h.mem (by have := h.ok.tl.1; omega)
theorem rx_end (h : RX w wr R D q) : Calls Try.prog 36 #[.pointer (some ⟨R, 0, none⟩)] wr fun e w' => e = .returned (.int .i64 q.fin) ∧ w' = wr := by
  obtain ⟨F, G, B, l, h⟩ := h
  exact end_any R D B q wr h.mem
theorem rx_pending (h : RX w wr R D q) : Calls Try.prog 17 #[.pointer (some ⟨D, 0, none⟩)] wr fun e w' => e = .returned (.int .i64 0) ∧ w' = wr := by
  obtain ⟨F, G, B, l, h⟩ := h
  refine (pending_up D F G l [] wr h.up).mono ?_
  rintro e w' ⟨rfl, rfl⟩
  exact ⟨rfl, rfl⟩
theorem rx_full (h : RX w wr R D q) (A : Option Addr) (n c : Nat) (hn : q.room < n) (h63 : n ≤ 9223372036854775807) : Calls Try.prog 34 #[.pointer (some ⟨R, 0, none⟩), .slice A n c] wr fun e w' => e = .returned (.int .i64 60) ∧ RX w w' R D q := by
  have h' := h
  obtain ⟨F, G, B, l, h⟩ := h
  refine (append_full R D B q wr h.mem h.ok h.live A n c hn h63).mono ?_
  rintro e w' ⟨rfl, m, rfl⟩
  exact ⟨rfl, h'.drewN m⟩
theorem rx_append (h : RX w wr R D q) (A : Option Addr) (n c : Nat) (xs : List UInt8) (hr : Rd wr 1 A n (u8s xs)) (hx : n = xs.length) (hn : n ≤ q.room) :
    Calls Try.prog 34 #[.pointer (some ⟨R, 0, none⟩), .slice A n c] wr fun e w' => e = .returned (.int .i64 0) ∧ ∃ q', RX w w' R D q' ∧ q'.tail = q.tail + n ∧ q'.room = q.room - n ∧ q'.n = q.n ∧ q'.start = q.start ∧ q'.fin = q.fin := by
  obtain ⟨F, G, B, l, h⟩ := h
  refine (rl_append h A n c xs hr hx hn).mono ?_
  rintro e w' ⟨rfl, B', h1, _, _⟩
  have ht : MRing.tail { q with bytes := q.bytes ++ xs } = q.tail + n := by
    show q.base + (q.bytes ++ xs).length = q.base + q.bytes.length + n
    rw [List.length_append]; omega
  refine ⟨rfl, _, ⟨F, G, B', l, h1⟩, ht, ?_, rfl, rfl, rfl⟩
  show (q.start / 118 + q.n - 1) * 118 - MRing.tail { q with bytes := q.bytes ++ xs } = (q.start / 118 + q.n - 1) * 118 - q.tail - n
  rw [ht]; omega
theorem rx_flush (h : RX w wr R D q) :
    Calls Try.prog 35 #[.pointer (some ⟨R, 0, none⟩)] wr fun e w' => e = .returned (.int .i64 0) ∧ ∃ q', RX w w' R D q' ∧ q'.tail = q.tail ∧ q'.room = q.room ∧ q'.n = q.n ∧ q'.start = q.start ∧ q'.fin = q.tail := by
  obtain ⟨F, G, B, l, h⟩ := h
  refine (rl_flush h (List.replicate q.base 0 ++ q.bytes) (by rw [List.drop_left' (by simp)]) (by rw [List.length_append, List.length_replicate]; rfl)).mono ?_
  rintro e w' ⟨rfl, F', G', h1, _, _, _⟩
  exact ⟨rfl, _, ⟨F', G', B, _, h1⟩, rfl, rfl, rfl, rfl, rfl⟩
theorem rx_trim (h : RX w wr R D q) (pos : Nat) (h1 : q.start ≤ pos) (h2 : pos ≤ q.fin) (h3 : pos ≤ 1099511627776) :
    Calls Try.prog 37 #[.pointer (some ⟨R, 0, none⟩), .int .i64 pos] wr fun e w' => e = .returned (.int .i64 0) ∧ ∃ q', RX w w' R D q' ∧ q'.tail = q.tail ∧ q'.room = (pos / 118 + q.n - 1) * 118 - q.tail ∧ q'.n = q.n ∧ q'.start = pos ∧ q'.fin = q.fin := by
  obtain ⟨F, G, B, l, h⟩ := h
  have hok := h.ok
  refine (rl_trim h pos h1 h2 h3).mono ?_
  rintro e w' ⟨rfl, B', h4, _, _⟩
  have hb := hok.b
  have he := hok.e2
  have hs : q.start / 118 ≤ pos / 118 := Nat.div_le_div_right h1
  have htl : q.tail = q.base + q.bytes.length := rfl
  have hT : MRing.tail { q with start := pos, base := pos / 118 * 118, bytes := q.bytes.drop (pos / 118 * 118 - q.base) } = q.tail := by
    show pos / 118 * 118 + (q.bytes.drop (pos / 118 * 118 - q.base)).length = q.base + q.bytes.length
    rw [List.length_drop]
    omega
  refine ⟨rfl, _, ⟨F, G, B', l, h4⟩, hT, ?_, rfl, rfl, rfl⟩
  unfold MRing.room
  rw [hT]
theorem rx_trim_arg (h : RX w wr R D q) (pos : Nat) (hp : q.fin < pos) :
    Calls Try.prog 37 #[.pointer (some ⟨R, 0, none⟩), .int .i64 pos] wr fun e w' => e = .returned (.int .i64 1) ∧ w' = wr := by
  obtain ⟨F, G, B, l, h⟩ := h
  exact trim_arg R D B q wr h.mem h.ok pos hp
end
end Go.Proofs.Ytjmcjbmnggecgaa
