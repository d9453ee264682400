/- A ring in memory, and its small methods: Start, End, Tail, Room. Conditions: sizes. -/
import Derived.Test.YtjmcjbmnggecgaaRgZ
import Derived.Test.YtjmcjbmnggecgaaDevU
import Derived.Deep.QuietTactic
import Derived.BigQuiet
namespace Go.Proofs.Ytjmcjbmnggecgaa
open Go.RowKit
set_option maxRecDepth 100000
set_option linter.unusedVariables false
set_option linter.unusedSimpArgs false

structure MRing where
  fr : Nat
  n : Nat
  base : Nat
  bytes : List UInt8
  start : Nat
  fin : Nat
  dead : Bool
def MRing.tail (q : MRing) : Nat := q.base + q.bytes.length
def MRing.room (q : MRing) : Nat := (q.start / 118 + q.n - 1) * 118 - q.tail
structure QOk (q : MRing) : Prop where
  n2 : 2 ≤ q.n
  n8 : q.n ≤ 8192
  f8 : q.fr ≤ 8192
  b : q.base = q.start / 118 * 118
  s : q.start ≤ 1099511627776
  e1 : q.start ≤ q.fin
  e2 : q.fin ≤ q.tail
  c : q.tail ≤ (q.start / 118 + q.n - 1) * 118
theorem QOk.tl {q : MRing} (h : QOk q) : q.tail ≤ 2199023255552 ∧ q.bytes.length ≤ 1000000 ∧ q.fin ≤ 2199023255552 ∧ q.base ≤ q.start := by
  have h1 := h.n8
  have h2 := h.b
  have h3 := h.s
  have h4 := h.c
  have h5 := h.e2
  unfold MRing.tail at *
  omega
/-- a ring's struct -/
def qcells (D : Nat) (bv : Value) (q : MRing) : Array Value := #[.pointer (some ⟨D, 0, none⟩), .int .i64 q.fr, .int .i64 q.n, .int .i64 q.base, bv, .int .i64 q.start, .int .i64 q.fin, .bool q.dead]
/-- its struct in block R, its bytes in a block of B -/
structure RgMem (w : World) (R D : Nat) (B : Nat → Prop) (q : MRing) : Prop where
  own : B R
  lt : ∀ i, B i → i < w.heap.size
  mem : ∃ bv, Blk w R 80 (qcells D bv q) ∧ w.ownsRow 0 5 1 bv q.bytes.length (u8s q.bytes) ∧ ∀ g, bv.ownBlock = some g → B g
theorem RgMem.chg {w w' : World} {R D : Nat} {B S : Nat → Prop} {q : MRing} (h : RgMem w R D B q) (hc : Chg S w w') (hS : ∀ i, B i → ¬ S i) : RgMem w' R D B q := by
  obtain ⟨bv, h1, h2, h3⟩ := h.mem
  exact ⟨h.own, fun i hi => Nat.lt_of_lt_of_le (h.lt i hi) hc.size, bv, h1.chg hc (hS _ h.own), own_chg h2 hc (fun g hg => hS _ (h3 g hg)), h3⟩
theorem RgMem.below {w w' : World} {R D : Nat} {B : Nat → Prop} {q : MRing} (h : RgMem w R D B q) (hb : Below w.heap.size w w') : RgMem w' R D B q := h.chg (S := fun _ => False) (Chg.of_below hb) (fun _ _ h => h)
theorem blk8 {w : World} {g : Nat} {t : TypeId} {a0 a1 a2 a3 a4 a5 a6 a7 : Value} (h : Blk w g t #[a0, a1, a2, a3, a4, a5, a6, a7]) :
    w.cell? ⟨g, 0, none⟩ = some a0 ∧ w.cell? ⟨g, 1, none⟩ = some a1 ∧ w.cell? ⟨g, 2, none⟩ = some a2 ∧ w.cell? ⟨g, 3, none⟩ = some a3 ∧ w.cell? ⟨g, 4, none⟩ = some a4 ∧ w.cell? ⟨g, 5, none⟩ = some a5 ∧ w.cell? ⟨g, 6, none⟩ = some a6 ∧ w.cell? ⟨g, 7, none⟩ = some a7 :=
  ⟨h.cell_ 0 rfl, h.cell_ 1 rfl, h.cell_ 2 rfl, h.cell_ 3 rfl, h.cell_ 4 rfl, h.cell_ 5 rfl, h.cell_ 6 rfl, h.cell_ 7 rfl⟩
/-- the cells of a ring, and its row -/
theorem RgMem.cells {w : World} {R D : Nat} {B : Nat → Prop} {q : MRing} (h : RgMem w R D B q) : ∃ A c, Hid (Blk w R 80 (qcells D (.slice A q.bytes.length c) q) ∧ w.ownsRow 0 5 1 (.slice A q.bytes.length c) q.bytes.length (u8s q.bytes) ∧ (∀ g, (Value.slice A q.bytes.length c).ownBlock = some g → B g) ∧ Rd w 1 A q.bytes.length (u8s q.bytes) ∧ q.bytes.length ≤ c) ∧
    w.cell? ⟨R, 0, none⟩ = some (.pointer (some ⟨D, 0, none⟩)) ∧ w.cell? ⟨R, 1, none⟩ = some (.int .i64 q.fr) ∧ w.cell? ⟨R, 2, none⟩ = some (.int .i64 q.n) ∧ w.cell? ⟨R, 3, none⟩ = some (.int .i64 q.base) ∧ w.cell? ⟨R, 4, none⟩ = some (.slice A q.bytes.length c) ∧ w.cell? ⟨R, 5, none⟩ = some (.int .i64 q.start) ∧ w.cell? ⟨R, 6, none⟩ = some (.int .i64 q.fin) ∧ w.cell? ⟨R, 7, none⟩ = some (.bool q.dead) := by
  obtain ⟨bv, h1, h2, h3⟩ := h.mem
  obtain ⟨A, c, rfl, hr⟩ := own_form h2
  have hcap : q.bytes.length ≤ c := by
    rcases h2.2 with ⟨h', h0⟩ | ⟨g, cap, cur, h', _, _, hle, _⟩
    · omega
    · injection h' with _ _ h'; omega
  exact ⟨A, c, hid ⟨h1, h2, h3, hr, hcap⟩, blk8 h1⟩

section
variable (R D : Nat) (B : Nat → Prop) (q : MRing) (w : World) (h : RgMem w R D B q)
include h
set_option maxHeartbeats 800000 in
theorem start_any : Calls Try.prog 45 #[.pointer (some ⟨R, 0, none⟩)] w fun e w' => e = .returned (.int .i64 q.start) ∧ w' = w := by
  obtain ⟨A, c, H, c0, c1, c2, c3, c4, c5, c6, c7⟩ := h.cells
  clear h
  go_enter Try.func45, Try.ntmps45
  go_wp2
  go_ret
  exact ⟨rfl, rfl⟩
set_option maxHeartbeats 800000 in
theorem end_any : Calls Try.prog 36 #[.pointer (some ⟨R, 0, none⟩)] w fun e w' => e = .returned (.int .i64 q.fin) ∧ w' = w := by
  obtain ⟨A, c, H, c0, c1, c2, c3, c4, c5, c6, c7⟩ := h.cells
  clear h
  go_enter Try.func36, Try.ntmps36
  go_wp2
  go_ret
  exact ⟨rfl, rfl⟩
set_option maxHeartbeats 800000 in
theorem tail_any (ht : q.tail ≤ 9000000000000000) : Calls Try.prog 33 #[.pointer (some ⟨R, 0, none⟩)] w fun e w' => e = .returned (.int .i64 q.tail) ∧ ∃ m, w' = w.drewN m := by
  obtain ⟨A, c, H, c0, c1, c2, c3, c4, c5, c6, c7⟩ := h.cells
  have hw : IntKind.i64.wrap ((q.base : Int) + (q.bytes.length : Int)) = (q.tail : Int) := by
    rw [IntKind.wrap_i64]
    unfold MRing.tail at *
    omega
  clear h ht
  go_enter Try.func33, Try.ntmps33
  go_wp2_with fail
  go_quiet (fail)
  go_wp2
  go_ret
  exact ⟨rfl, _, rfl⟩
end
theorem RgMem.drewN {w : World} {R D : Nat} {B : Nat → Prop} {q : MRing} (h : RgMem w R D B q) (n : Nat) : RgMem (w.drewN n) R D B q := h.below ⟨rfl, rfl, rfl, Nat.le_refl _, fun _ _ => rfl⟩
set_option maxHeartbeats 800000 in
theorem room_any (R D : Nat) (B : Nat → Prop) (q : MRing) (w : World) (h : RgMem w R D B q) (hq : QOk q) : Calls Try.prog 32 #[.pointer (some ⟨R, 0, none⟩)] w fun e w' => e = .returned (.int .i64 q.room) ∧ ∃ m, w' = w.drewN m := by
  have HM := hid h
  have HQ := hid hq
  obtain ⟨A, c, H, c0, c1, c2, c3, c4, c5, c6, c7⟩ := h.cells
  have ht := hq.tl
  have h8 := hq.n8
  have h2 := hq.n2
  have hs := hq.s
  have hw0 : (q.start : Int).tdiv 118 = ((q.start / 118 : Nat) : Int) := by
    rw [Int.tdiv_eq_ediv_of_nonneg (by omega)]; omega
  obtain ⟨s, hs'⟩ : ∃ s, s = q.start / 118 := ⟨_, rfl⟩
  have hsb : s ≤ 10000000000 := by omega
  rw [← hs'] at hw0
  have hw1 : IntKind.i64.wrap ((s : Int) + (q.n : Int)) = (s : Int) + q.n := by rw [IntKind.wrap_i64]; omega
  have hw2 : IntKind.i64.wrap ((s : Int) + (q.n : Int) - 1) = (s : Int) + q.n - 1 := by rw [IntKind.wrap_i64]; omega
  have hw3 : IntKind.i64.wrap (((s : Int) + (q.n : Int) - 1) * 118) = ((s : Int) + q.n - 1) * 118 := by rw [IntKind.wrap_i64]; omega
  have hw4 : IntKind.i64.wrap (((s : Int) + (q.n : Int) - 1) * 118 - (q.tail : Int)) = ((s : Int) + q.n - 1) * 118 - q.tail := by rw [IntKind.wrap_i64]; omega
  have hc := hq.c
  have hr : Hid ((q.room : Int) = ((s : Int) + q.n - 1) * 118 - q.tail) := hid (by
    unfold MRing.room
    rw [← hs'] at hc ⊢
    omega)
  rw [← hs'] at hc
  have hnn : 0 ≤ ((s : Int) + q.n - 1) * 118 - q.tail := by omega
  clear h hq hs' hc
  go_enter Try.func32, Try.ntmps32
  go_wp2_with fail
  go_quiet ((go_at_call 33; exact Calls.quiet_of (tail_any R D B q _ (HM.out.drewN _) (by have := HQ.out.tl.1; omega))))
  go_wp2
  all_goals
    go_ret
    refine ⟨congrArg (fun z => Ending.returned (.int .i64 z)) ?_, _, rfl⟩
    have := hr.out
    omega
end Go.Proofs.Ytjmcjbmnggecgaa
