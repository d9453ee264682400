/- RingLent: what the law holds between its calls. Conditions: sizes. -/
import Derived.Test.YtjmcjbmnggecgaaRgX
import Derived.SizedLaws
import Derived.Laws.Concat
namespace Go.Proofs.Ytjmcjbmnggecgaa
open Go.RowKit
set_option maxRecDepth 100000
set_option linter.unusedVariables false
set_option linter.unusedSimpArgs false

theorem u8s_append (a b : List UInt8) : u8s (a ++ b) = u8s a ++ u8s b := by simp [u8s]
theorem own_cap {w : World} {base : Nat} {e : TypeId} {size n c : Nat} {A : Option Addr} {xs : List Value} (h : w.ownsRow base e size (.slice A n c) n xs) : n ≤ c := by
  rcases h.2 with ⟨h', h0⟩ | ⟨g, cap, cur, h', _, _, hle, _⟩
  · omega
  · injection h' with _ _ h'; omega
/-- a row of one's own that is not empty lies in a block of its own -/
theorem own_cells {w : World} {base n c : Nat} {t : TypeId} {A : Option Addr} {xs : List Value} (h : w.ownsRow base t 1 (.slice A n c) n xs) (hn : 0 < n) : ∃ (g : Nat) (cs : Array Value), A = some ⟨g, 0, none⟩ ∧ base ≤ g ∧ g < w.heap.size ∧ Blk w g t cs ∧ ∀ (j : Nat) (u : Value), xs[j]? = some u → cs[j]? = some u := by
  have hr := Rd.of_own h
  rcases h.2 with ⟨_, h0⟩ | ⟨g, cap, cur, h', hb, hh, _⟩
  · omega
  · injection h' with h'
    subst h'
    have hk : Blk w g t cur := hh
    refine ⟨g, cur, rfl, hb, hk.lt, hk, fun j u hu => ?_⟩
    obtain ⟨ad, e, _, hc⟩ := hr.2 hn
    injection e with e
    subst e
    have := hc j u hu
    rw [Addr.add_lit, Nat.zero_add, hk.cell] at this
    exact this

/-- the ring, and the slice that was handed in -/
structure LtS (w wr : World) (R D : Nat) (F G B : Nat → Prop) (q : MRing) (l : List (List UInt8)) (g n : Nat) : Prop where
  rl : RL w wr R D F G B q l
  nf : ¬ F g ∧ ¬ G g ∧ ¬ B g
  ge : w.heap.size ≤ g
  own : ∃ cs, Blk wr g 5 cs ∧ (∀ j, j ≤ n → ∃ u, cs[j]? = some u) ∧ cs[n]? = some (.int .u8 77)
section
variable {w wr w2 : World} {R D : Nat} {F G B : Nat → Prop} {q : MRing} {l : List (List UInt8)} {g n : Nat}
theorem LtS.below (h : LtS w wr R D F G B q l g n) (hb : Below wr.heap.size wr w2) : LtS w w2 R D F G B q l g n := by
  obtain ⟨cs, h1, h2⟩ := h.own
  exact ⟨h.rl.below hb, h.nf, h.ge, cs, h1.below hb h1.lt, h2⟩
/-- other blocks of the law's own may change -/
theorem LtS.frame {S : Nat → Prop} (h : LtS w wr R D F G B q l g n) (hc : Chg S wr w2) (hS : ∀ i, S i → ¬ F i ∧ ¬ G i ∧ ¬ B i ∧ i ≠ g) (hg : ∀ i, S i → w.heap.size ≤ i) : LtS w w2 R D F G B q l g n := by
  obtain ⟨cs, h1, h2⟩ := h.own
  exact ⟨h.rl.frame hc (fun i hi => ⟨(hS i hi).1, (hS i hi).2.1, (hS i hi).2.2.1⟩) hg, h.nf, h.ge, cs, h1.chg hc (fun e => (hS g e).2.2.2 rfl), h2⟩
theorem LtS.set (h : LtS w wr R D F G B q l g n) (k : Nat) (hk : k < n) (v : Value) : LtS w (wr.setCell ⟨g, k, none⟩ v) R D F G B q l g n := by
  obtain ⟨cs, h1, h2, h3⟩ := h.own
  refine ⟨h.rl.frame (S := (· = g)) (chg_set g k v) (by rintro i rfl; exact h.nf) (by rintro i rfl; exact h.ge), h.nf, h.ge, cs.setIfInBounds k v, h1.set_ k v, fun j hj => ?_, ?_⟩
  · obtain ⟨u, hu⟩ := h2 j hj
    have hlt := (Array.getElem?_eq_some_iff.1 hu).1
    exact ⟨_, Array.getElem?_eq_getElem (by simpa using hlt)⟩
  · rw [Array.getElem?_setIfInBounds_ne (by omega)]
    exact h3
theorem LtS.cell (h : LtS w wr R D F G B q l g n) (k : Nat) (hk : k ≤ n) : ∃ u, wr.cell? ⟨g, k, none⟩ = some u ∧ wr.frozen? ⟨g, k, none⟩ = false := by
  obtain ⟨cs, h1, h2, _⟩ := h.own
  obtain ⟨u, hu⟩ := h2 k hk
  exact ⟨u, h1.cell_ k hu, h1.frozen k⟩
theorem LtS.last (h : LtS w wr R D F G B q l g n) : wr.cell? ⟨g, n, none⟩ = some (.int .u8 77) := by
  obtain ⟨cs, h1, _, h3⟩ := h.own
  exact h1.cell_ n h3
theorem lt_append (h : LtS w wr R D F G B q l g n) (A : Option Addr) (m c : Nat) (xs : List UInt8) (hr : Rd wr 1 A m (u8s xs)) (hx : m = xs.length) (hm : m ≤ q.room) :
    Calls Try.prog 34 #[.pointer (some ⟨R, 0, none⟩), .slice A m c] wr fun e w' => e = .returned (.int .i64 0) ∧ ∃ B', LtS w w' R D F G B' { q with bytes := q.bytes ++ xs } l g n := by
  refine (rl_append h.rl A m c xs hr hx hm).mono ?_
  rintro e w' ⟨rfl, B', h1, h2, h3⟩
  obtain ⟨cs, h4, h5⟩ := h.own
  refine ⟨rfl, B', h1, ⟨h.nf.1, h.nf.2.1, fun hb => ?_⟩, h.ge, cs, h4.chg h3 h.nf.2.2, h5⟩
  rcases h2 g hb with h6 | h6
  · exact h.nf.2.2 h6
  · have := h4.lt; omega
/-- what was read is new memory: blocks from the world's end on -/
theorem lt_read (h : LtS w wr R D F G B q l g n) (pos k : Nat) (hp : q.start ≤ pos) (hk : pos + k ≤ q.tail) :
    Calls Try.prog 38 #[.pointer (some ⟨R, 0, none⟩), .int .i64 pos, .int .i64 k] wr fun e w' => ∃ A c, e = .returned (.tuple #[.slice A k c, .int .i64 0]) ∧ w'.ownsRow wr.heap.size 5 1 (.slice A k c) k (u8s ((q.bytes.drop (pos - q.base)).take k)) ∧ LtS w w' R D F G B q l g n := by
  refine (rread_ok R D B q wr h.rl.mem h.rl.ok pos k hp hk).mono ?_
  rintro e w' ⟨A, c, rfl, h1, h2⟩
  exact ⟨A, c, rfl, h1, h.below h2⟩
/-- blocks that are newer than a world before are none of the ring's -/
theorem LtS.new (h : LtS w wr R D F G B q l g n) {i : Nat} (hi : wr.heap.size ≤ i) : ¬ F i ∧ ¬ G i ∧ ¬ B i ∧ i ≠ g := by
  have h1 := h.rl.up.lt
  have h2 := h.rl.mem.lt
  obtain ⟨cs, h4, _⟩ := h.own
  have h5 := h4.lt
  exact ⟨fun h => by have := h1.1 i h; omega, fun h => by have := h1.2.1 i h; omega, fun h => by have := h2 i h; omega, by omega⟩
end
end Go.Proofs.Ytjmcjbmnggecgaa
