/- The laws' ring and its device, behind any calls that go well; and the law's own awake. Conditions: sizes. -/
import Derived.Test.YtjmcjbmnggecgaaRgG
namespace Go.Proofs.Ytjmcjbmnggecgaa
open Go.RowKit
set_option maxRecDepth 100000
set_option linter.unusedVariables false
set_option linter.unusedSimpArgs false

structure RL (w wr : World) (R D : Nat) (F G B : Nat → Prop) (q : MRing) (l : List (List UInt8)) : Prop where
  up : Up wr D F G l []
  mem : RgMem wr R D B q
  ge : ∀ i, F i ∨ G i ∨ B i → w.heap.size ≤ i
  dis : ∀ i, B i → ¬ F i ∧ ¬ G i
  be : Below w.heap.size w wr
  ok : QOk q
  live : q.dead = false
  fn : q.fr + q.n ≤ l.length
  l8 : l.length ≤ 8192
section
variable {w wr w2 : World} {R D : Nat} {F G B : Nat → Prop} {q : MRing} {l : List (List UInt8)}
theorem RL.below (h : RL w wr R D F G B q l) (hb : Below wr.heap.size wr w2) : RL w w2 R D F G B q l :=
  ⟨h.up.below hb, h.mem.below hb, h.ge, h.dis, h.be.trans (hb.mono h.be.size), h.ok, h.live, h.fn, h.l8⟩
/-- other blocks of the law's own may change -/
theorem RL.frame {S : Nat → Prop} (h : RL w wr R D F G B q l) (hc : Chg S wr w2) (hS : ∀ i, S i → ¬ F i ∧ ¬ G i ∧ ¬ B i) (hg : ∀ i, S i → w.heap.size ≤ i) : RL w w2 R D F G B q l :=
  ⟨h.up.frame hc (fun i hi => ⟨(hS i hi).1, (hS i hi).2.1⟩), h.mem.chg hc (fun i hb hs => (hS i hs).2.2 hb), h.ge, h.dis, h.be.trans (hc.below h.be.size hg), h.ok, h.live, h.fn, h.l8⟩
theorem QOk.app (h : QOk q) (xs : List UInt8) (hx : xs.length ≤ q.room) : QOk { q with bytes := q.bytes ++ xs } := by
  have h1 := h.c
  have h2 := h.e2
  unfold MRing.room at hx
  refine ⟨h.n2, h.n8, h.f8, h.b, h.s, h.e1, ?_, ?_⟩
  · show q.fin ≤ q.base + (q.bytes ++ xs).length
    rw [List.length_append]
    unfold MRing.tail at h2
    omega
  · show q.base + (q.bytes ++ xs).length ≤ _
    rw [List.length_append]
    unfold MRing.tail at h1 hx
    show q.base + (q.bytes.length + xs.length) ≤ (q.start / 118 + q.n - 1) * 118
    omega
theorem QOk.trim (h : QOk q) (pos : Nat) (h1 : q.start ≤ pos) (h2 : pos ≤ q.fin) (h3 : pos ≤ 1099511627776) : QOk { q with start := pos, base := pos / 118 * 118, bytes := q.bytes.drop (pos / 118 * 118 - q.base) } := by
  have hb := h.b
  have hc := h.c
  have he := h.e2
  have hs : q.start / 118 ≤ pos / 118 := Nat.div_le_div_right h1
  have htl : q.tail = q.base + q.bytes.length := rfl
  have hT : MRing.tail { q with start := pos, base := pos / 118 * 118, bytes := q.bytes.drop (pos / 118 * 118 - q.base) } = q.tail := by
    show pos / 118 * 118 + (q.bytes.drop (pos / 118 * 118 - q.base)).length = q.base + q.bytes.length
    rw [List.length_drop]
    omega
  refine ⟨h.n2, h.n8, h.f8, rfl, h3, h2, ?_, ?_⟩
  · rw [hT]; exact he
  · rw [hT]; show q.tail ≤ (pos / 118 + q.n - 1) * 118; omega
theorem rl_append (h : RL w wr R D F G B q l) (A : Option Addr) (n c : Nat) (xs : List UInt8) (hr : Rd wr 1 A n (u8s xs)) (hx : n = xs.length) (hn : n ≤ q.room) :
    Calls Try.prog 34 #[.pointer (some ⟨R, 0, none⟩), .slice A n c] wr fun e w' => e = .returned (.int .i64 0) ∧ ∃ B', RL w w' R D F G B' { q with bytes := q.bytes ++ xs } l ∧ (∀ i, B' i → B i ∨ wr.heap.size ≤ i) ∧ Chg B wr w' := by
  refine (append_ok R D B q wr h.mem h.ok h.live A n c xs hr hx hn).mono ?_
  rintro e w' ⟨rfl, B', h1, h2, h3⟩
  have hs := h.be.size
  refine ⟨rfl, B', ⟨h.up.frame h3 h.dis, h1, fun i hi => ?_, fun i hi => ?_, h.be.trans (h3.below hs (fun i hi => h.ge i (.inr (.inr hi)))), h.ok.app xs (by omega), h.live, h.fn, h.l8⟩, h2, h3⟩
  · rcases hi with hi | hi | hi
    · exact h.ge i (.inl hi)
    · exact h.ge i (.inr (.inl hi))
    · rcases h2 i hi with hi | hi
      · exact h.ge i (.inr (.inr hi))
      · omega
  · have hlt := h.up.lt
    rcases h2 i hi with hi | hi
    · exact h.dis i hi
    · exact ⟨fun hf => by have := hlt.1 i hf; omega, fun hg => by have := hlt.2.1 i hg; omega⟩
theorem rl_trim (h : RL w wr R D F G B q l) (pos : Nat) (h1 : q.start ≤ pos) (h2 : pos ≤ q.fin) (h3 : pos ≤ 1099511627776) :
    Calls Try.prog 37 #[.pointer (some ⟨R, 0, none⟩), .int .i64 pos] wr fun e w' => e = .returned (.int .i64 0) ∧ ∃ B', RL w w' R D F G B' { q with start := pos, base := pos / 118 * 118, bytes := q.bytes.drop (pos / 118 * 118 - q.base) } l ∧ (∀ i, B' i → B i ∨ wr.heap.size ≤ i) ∧ Chg B wr w' := by
  refine (trim_ok R D B q wr h.mem h.ok pos h1 h2).mono ?_
  rintro e w' ⟨rfl, B', h4, h5, h6⟩
  have hs := h.be.size
  refine ⟨rfl, B', ⟨h.up.frame h6 h.dis, h4, fun i hi => ?_, fun i hi => ?_, h.be.trans (h6.below hs (fun i hi => h.ge i (.inr (.inr hi)))), h.ok.trim pos h1 h2 h3, h.live, h.fn, h.l8⟩, h5, h6⟩
  · rcases hi with hi | hi | hi
    · exact h.ge i (.inl hi)
    · exact h.ge i (.inr (.inl hi))
    · rcases h5 i hi with hi | hi
      · exact h.ge i (.inr (.inr hi))
      · omega
  · have hlt := h.up.lt
    rcases h5 i hi with hi | hi
    · exact h.dis i hi
    · exact ⟨fun hf => by have := hlt.1 i hf; omega, fun hg => by have := hlt.2.1 i hg; omega⟩
/-- what a flush has made of the device -/
def flushed (q : MRing) (l : List (List UInt8)) (all : List UInt8) : List (List UInt8) := if q.fin = q.tail then l else applyW (applyW l (fw1 all q.fr q.n (q.fin / 118) ((all.length - 1) / 118))) (fw2 all q.fr q.n (q.fin / 118))
theorem flushed_length (q : MRing) (l : List (List UInt8)) (all : List UInt8) : (flushed q l all).length = l.length := by
  unfold flushed
  split
  · rfl
  · rw [applyW_length, applyW_length]
theorem rl_flush (h : RL w wr R D F G B q l) (all : List UInt8) (hall : q.bytes = all.drop q.base) (hta : q.tail = all.length) :
    Calls Try.prog 35 #[.pointer (some ⟨R, 0, none⟩)] wr fun e w' => e = .returned (.int .i64 0) ∧ ∃ F' G', RL w w' R D F' G' B { q with fin := q.tail } (flushed q l all) ∧ (∀ i, F' i → F i ∨ wr.heap.size ≤ i) ∧ (∀ i, G' i → G i ∨ wr.heap.size ≤ i) ∧ Chg (fun i => F i ∨ B i) wr w' := by
  have hs := h.be.size
  have hq2 : QOk { q with fin := q.tail } := ⟨h.ok.n2, h.ok.n8, h.ok.f8, h.ok.b, h.ok.s, Nat.le_trans h.ok.e1 h.ok.e2, Nat.le_refl _, h.ok.c⟩
  by_cases hf : q.fin = q.tail
  · refine (Flush_nop R D B q wr h.mem h.ok h.live hf).mono ?_
    rintro e w' ⟨rfl, m, rfl⟩
    have e1 : ({ q with fin := q.tail } : MRing) = q := by rw [← hf]
    have e2 : flushed q l all = l := by rw [flushed, if_pos hf]
    rw [e1, e2]
    exact ⟨rfl, F, G, h.below (below_drewN (Below.refl _ _) _), fun i hi => .inl hi, fun i hi => .inl hi, (Chg.refl _ _).drewN _⟩
  · have hlt : q.fin < q.tail := by have := h.ok.e2; omega
    refine (Flush_any R D F G B q l (-1) wr h.mem h.up.dv h.dis h.ok h.live h.fn h.l8 all hall hta hlt).mono ?_
    rintro e w' ⟨F', G', f', l', W', dd, q', hS, hp⟩
    rcases hp with ⟨rfl, rfl, rfl, rfl, rfl⟩ | ⟨_, hne, _⟩
    · have e2 : flushed q l all = applyW (applyW l (fw1 all q.fr q.n (q.fin / 118) ((all.length - 1) / 118))) (fw2 all q.fr q.n (q.fin / 118)) := by rw [flushed, if_neg hf]
      have hf' := hS.ff rfl
      subst hf'
      rw [← e2] at hS
      refine ⟨rfl, F', G', ⟨hS.dv.up, hS.mem, fun i hi => ?_, hS.dis, h.be.trans (hS.ch.below hs (fun i hi => hi.elim (fun h1 => h.ge i (.inl h1)) (fun h1 => h.ge i (.inr (.inr h1))))), hq2, h.live, by rw [flushed_length]; exact h.fn, by rw [flushed_length]; exact h.l8⟩, hS.fs, hS.gs, hS.ch⟩
      rcases hi with hi | hi | hi
      · rcases hS.fs i hi with hi | hi
        · exact h.ge i (.inl hi)
        · omega
      · rcases hS.gs i hi with hi | hi
        · exact h.ge i (.inr (.inl hi))
        · omega
      · exact h.ge i (.inr (.inr hi))
    · exact absurd rfl hne
/-- a ring opened over a device of the law's own -/
theorem rl_open {D : Nat} {F G : Nat → Prop} {l : List (List UInt8)} {w wr : World} (hu : Up wr D F G l []) (hge : ∀ i, F i ∨ G i → w.heap.size ≤ i) (hbe : Below w.heap.size w wr) (fr n start : Nat) (hn2 : 2 ≤ n) (hn8 : n ≤ 8192) (hb : fr + n ≤ l.length) (hl : l.length ≤ 8192) (all : List UInt8) (hinv : RInv l fr n start all) (hst : start ≤ 1099511627776) :
    Calls Try.prog 31 #[.pointer (some ⟨D, 0, none⟩), .int .i64 fr, .int .i64 n, .int .i64 start] wr fun e w' => ∃ R B, e = .returned (.tuple #[.pointer (some ⟨R, 0, none⟩), .int .i64 0]) ∧
      RL w w' R D F G B ⟨fr, n, start / 118 * 118, all.drop (start / 118 * 118), start, all.length, false⟩ l ∧ (∀ i, B i → wr.heap.size ≤ i) ∧ Chg (· = D) wr w' := by
  refine (open_any D F G l wr hu fr n start hn2 hn8 hb hl all hinv hst).mono ?_
  rintro e w' ⟨R, B, rfl, hm, hu', hB, hc⟩
  have hs := hbe.size
  have hlt := hu.lt
  have hcap := hinv.cap
  have hst2 := hinv.st
  have htl : MRing.tail ⟨fr, n, start / 118 * 118, all.drop (start / 118 * 118), start, all.length, false⟩ = all.length := by
    show start / 118 * 118 + (all.drop (start / 118 * 118)).length = _
    rw [List.length_drop]
    omega
  refine ⟨R, B, rfl, ⟨hu', hm, fun i hi => ?_, fun i hi => ?_, hbe.trans (hc.below hs (fun i e => by subst e; exact hge _ (.inl hlt.2.2))), ⟨hn2, hn8, show fr ≤ 8192 by omega, rfl, hst, hst2, by rw [htl]; exact Nat.le_refl _, by rw [htl]; exact hcap⟩, rfl, hb, hl⟩, hB, hc⟩
  · rcases hi with hi | hi | hi
    · exact hge i (.inl hi)
    · exact hge i (.inr hi)
    · have := hB i hi; omega
  · have h1 := hB i hi
    exact ⟨fun hf => by have := hlt.1 i hf; omega, fun hg => by have := hlt.2.1 i hg; omega⟩
end
end Go.Proofs.Ytjmcjbmnggecgaa
