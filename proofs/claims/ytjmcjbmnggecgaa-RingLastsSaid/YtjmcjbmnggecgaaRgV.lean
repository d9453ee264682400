/- The laws' ring, its device and the law's own copy of the stream side by side. Conditions: sizes. -/
import Derived.Test.YtjmcjbmnggecgaaRmx
namespace Go.Proofs.Ytjmcjbmnggecgaa
open Go.RowKit
set_option maxRecDepth 100000
set_option linter.unusedVariables false
set_option linter.unusedSimpArgs false

/-- the law's own copy of the stream; it touches none of the blocks of S -/
structure Mine (w wr : World) (S : Nat → Prop) (v : Value) (all : List UInt8) : Prop where
  own : wr.ownsRow w.heap.size 5 1 v all.length (u8s all)
  far : ∀ g, v.ownBlock = some g → ¬ S g
section
variable {w wr w2 : World} {R D : Nat} {F G B S S' : Nat → Prop} {q : MRing} {l : List (List UInt8)} {v : Value} {all : List UInt8}
theorem Mine.nil : Mine w wr S (.slice none 0 0) [] := ⟨World.ownsRow_nil _ _ _ _, fun g h => by simp [Value.ownBlock] at h⟩
theorem Mine.lt (h : Mine w wr S v all) {g : Nat} (hg : v.ownBlock = some g) : w.heap.size ≤ g ∧ g < wr.heap.size := own_block h.own hg
/-- a step that changes blocks of S, and new ones -/
theorem Mine.step {T : Nat → Prop} (h : Mine w wr S v all) (hc : Chg T wr w2) (hT : ∀ i, i < wr.heap.size → T i → S i) (hS : ∀ i, S' i → S i ∨ wr.heap.size ≤ i) : Mine w w2 S' v all :=
  ⟨own_chg h.own (hc.mono hT) (fun g hg hs => h.far g hg hs), fun g hg hs => by
    rcases hS g hs with h1 | h1
    · exact h.far g hg h1
    · have := (h.lt hg).2; omega⟩
theorem Mine.below (h : Mine w wr S v all) (hb : Below wr.heap.size wr w2) : Mine w w2 S v all := h.step (T := fun _ => False) (Chg.of_below hb) (fun _ _ h => h.elim) (fun i h => .inl h)
theorem Mine.form (h : Mine w wr S v all) : ∃ A c, v = .slice A all.length c ∧ Hid (Rd wr 1 A all.length (u8s all)) ∧ all.length ≤ c := by
  obtain ⟨A, c, rfl, hr⟩ := own_form h.own
  refine ⟨A, c, rfl, hid hr, ?_⟩
  rcases h.own.2 with ⟨h', h0⟩ | ⟨g, cap, cur, h', _, _, hle, _⟩
  · omega
  · injection h' with _ _ h'; omega

/-- the device between two rings -/
structure RA (w wr : World) (D : Nat) (l : List (List UInt8)) (v : Value) (all : List UInt8) (F G : Nat → Prop) : Prop where
  up : Up wr D F G l []
  ge : ∀ i, F i ∨ G i → w.heap.size ≤ i
  be : Below w.heap.size w wr
  my : Mine w wr (fun i => F i ∨ G i) v all
theorem RA.below (h : RA w wr D l v all F G) (hb : Below wr.heap.size wr w2) : RA w w2 D l v all F G := ⟨h.up.below hb, h.ge, h.be.trans (hb.mono h.be.size), h.my.below hb⟩
/-- a ring beside it -/
structure RV (w wr : World) (R D : Nat) (q : MRing) (l : List (List UInt8)) (v : Value) (all : List UInt8) (F G B : Nat → Prop) : Prop where
  rl : RL w wr R D F G B q l
  my : Mine w wr (fun i => F i ∨ G i ∨ B i) v all
theorem RV.below (h : RV w wr R D q l v all F G B) (hb : Below wr.heap.size wr w2) : RV w w2 R D q l v all F G B := ⟨h.rl.below hb, h.my.below hb⟩
theorem RV.drewN (h : RV w wr R D q l v all F G B) (n : Nat) : RV w (wr.drewN n) R D q l v all F G B := h.below (below_drewN (Below.refl _ _) n)
theorem RV.ra (h : RV w wr R D q l v all F G B) : RA w wr D l v all F G :=
  ⟨h.rl.up, fun i hi => h.rl.ge i (hi.elim .inl fun h => .inr (.inl h)), h.rl.be, ⟨h.my.own, fun g hg hs => h.my.far g hg (hs.elim .inl fun h => .inr (.inl h))⟩⟩
theorem RV.rx (h : RV w wr R D q l v all F G B) : RX w wr R D q := ⟨F, G, B, l, h.rl⟩
/-- the ring that Open makes -/
def opened (fr n start : Nat) (all : List UInt8) : MRing := ⟨fr, n, start / 118 * 118, all.drop (start / 118 * 118), start, all.length, false⟩
theorem opened_tail {fr n start : Nat} {all : List UInt8} (h : start ≤ all.length) : (opened fr n start all).tail = all.length := by
  show start / 118 * 118 + (all.drop (start / 118 * 118)).length = _
  rw [List.length_drop]
  omega
theorem rv_open (h : RA w wr D l v all F G) (fr n start : Nat) (st : List UInt8) (hn2 : 2 ≤ n) (hn8 : n ≤ 8192) (hb : fr + n ≤ l.length) (hl : l.length ≤ 8192) (hinv : RInv l fr n start st) (hst : start ≤ 1099511627776) :
    Calls Try.prog 31 #[.pointer (some ⟨D, 0, none⟩), .int .i64 fr, .int .i64 n, .int .i64 start] wr fun e w' => ∃ R B, e = .returned (.tuple #[.pointer (some ⟨R, 0, none⟩), .int .i64 0]) ∧ RV w w' R D (opened fr n start st) l v all F G B := by
  refine (rl_open h.up h.ge h.be fr n start hn2 hn8 hb hl st hinv hst).mono ?_
  rintro e w' ⟨R, B, rfl, h1, h2, h3⟩
  exact ⟨R, B, rfl, h1, h.my.step h3 (fun i _ e => by subst e; exact .inl h.up.lt.2.2) (fun i hi => by
    rcases hi with hi | hi | hi
    · exact .inl (.inl hi)
    · exact .inl (.inr hi)
    · exact .inr (h2 i hi))⟩
theorem rv_append (h : RV w wr R D q l v all F G B) (A : Option Addr) (n c : Nat) (xs : List UInt8) (hr : Rd wr 1 A n (u8s xs)) (hx : n = xs.length) (hn : n ≤ q.room) :
    Calls Try.prog 34 #[.pointer (some ⟨R, 0, none⟩), .slice A n c] wr fun e w' => e = .returned (.int .i64 0) ∧ ∃ B', RV w w' R D { q with bytes := q.bytes ++ xs } l v all F G B' := by
  refine (rl_append h.rl A n c xs hr hx hn).mono ?_
  rintro e w' ⟨rfl, B', h1, h2, h3⟩
  exact ⟨rfl, B', h1, h.my.step h3 (fun i _ e => .inr (.inr e)) (fun i hi => by
    rcases hi with hi | hi | hi
    · exact .inl (.inl hi)
    · exact .inl (.inr (.inl hi))
    · rcases h2 i hi with h4 | h4
      · exact .inl (.inr (.inr h4))
      · exact .inr h4)⟩
theorem rv_flush (h : RV w wr R D q l v all F G B) (st : List UInt8) (hall : q.bytes = st.drop q.base) (hta : q.tail = st.length) :
    Calls Try.prog 35 #[.pointer (some ⟨R, 0, none⟩)] wr fun e w' => e = .returned (.int .i64 0) ∧ ∃ F' G', RV w w' R D { q with fin := q.tail } (flushed q l st) v all F' G' B ∧
      ∀ (w0 : World) (vx : Value) (x : List UInt8), Mine w0 wr (fun i => F i ∨ G i ∨ B i) vx x → Mine w0 w' (fun i => F' i ∨ G' i ∨ B i) vx x := by
  refine (rl_flush h.rl st hall hta).mono ?_
  rintro e w' ⟨rfl, F', G', h1, h2, h3, h4⟩
  have hm : ∀ (w0 : World) (vx : Value) (x : List UInt8), Mine w0 wr (fun i => F i ∨ G i ∨ B i) vx x → Mine w0 w' (fun i => F' i ∨ G' i ∨ B i) vx x := fun w0 vx x hx =>
    hx.step h4 (fun i _ e => e.elim .inl fun h => .inr (.inr h)) (fun i hi => by
      rcases hi with hi | hi | hi
      · rcases h2 i hi with h5 | h5
        · exact .inl (.inl h5)
        · exact .inr h5
      · rcases h3 i hi with h5 | h5
        · exact .inl (.inr (.inl h5))
        · exact .inr h5
      · exact .inl (.inr (.inr hi)))
  exact ⟨rfl, F', G', ⟨h1, hm _ _ _ h.my⟩, hm⟩
/-- what was read of a ring is new memory -/
theorem rv_read (h : RV w wr R D q l v all F G B) (pos k : Nat) (hp : q.start ≤ pos) (hk : pos + k ≤ q.tail) :
    Calls Try.prog 38 #[.pointer (some ⟨R, 0, none⟩), .int .i64 pos, .int .i64 k] wr fun e w' => ∃ A c, e = .returned (.tuple #[.slice A k c, .int .i64 0]) ∧ Mine wr w' (fun i => F i ∨ G i ∨ B i) (.slice A k c) ((q.bytes.drop (pos - q.base)).take k) ∧ RV w w' R D q l v all F G B := by
  have hlt := h.rl.up.lt
  have hlm := h.rl.mem.lt
  have hqb := h.rl.ok.b
  have hlen : ((q.bytes.drop (pos - q.base)).take k).length = k := by
    have e : q.tail = q.base + q.bytes.length := rfl
    rw [List.length_take, List.length_drop]
    omega
  refine (rread_ok R D B q wr h.rl.mem h.rl.ok pos k hp hk).mono ?_
  rintro e w' ⟨A, c, rfl, h1, h2⟩
  refine ⟨A, c, rfl, ⟨by rw [hlen]; exact h1, fun g hg hs => ?_⟩, h.below h2⟩
  have := (own_block h1 hg).1
  rcases hs with hs | hs | hs
  · have := hlt.1 g hs; omega
  · have := hlt.2.1 g hs; omega
  · have := hlm g hs; omega
/-- a slice of one's own reads as its bytes -/
theorem Mine.rd {A : Option Addr} {n c : Nat} (h : Mine w wr S (.slice A n c) all) : n = all.length ∧ Rd wr 1 A n (u8s all) := by
  obtain ⟨A', c', e, hr⟩ := own_form h.own
  injection e with e1 e2 e3
  subst e1
  have hn : n = all.length := e2
  rw [hn]
  exact ⟨rfl, hr⟩
/-- the law's own copy grows -/
theorem RV.grow {v2 : Value} {xs : List UInt8} (h : RV w wr R D q l v all F G B) (hg : wr.grownBy w2 v.ownBlock) (hn : w2.ownsRow w.heap.size 5 1 v2 (all.length + xs.length) (u8s all ++ u8s xs)) (hat : v2.ownBlock = v.ownBlock ∨ v2.ownBlock = some wr.heap.size) :
    RV w w2 R D q l v2 (all ++ xs) F G B := by
  have hc : Chg (fun i => v.ownBlock = some i) wr w2 := (Chg.refl _ wr).grown hg (fun k hk _ => hk)
  have hlt := h.rl.up.lt
  have hlm := h.rl.mem.lt
  refine ⟨h.rl.frame hc (fun i hi => ?_) (fun i hi => (h.my.lt hi).1), ?_, fun g hg' hs => ?_⟩
  · have := h.my.far i hi
    exact ⟨fun h1 => this (.inl h1), fun h1 => this (.inr (.inl h1)), fun h1 => this (.inr (.inr h1))⟩
  · rw [List.length_append, show u8s (all ++ xs) = u8s all ++ u8s xs by simp [u8s]]
    exact hn
  · rcases hat with h1 | h1
    · exact h.my.far g (by rw [← h1]; exact hg') hs
    · rw [h1] at hg'
      injection hg' with hg'
      rcases hs with hs | hs | hs
      · have := hlt.1 g hs; omega
      · have := hlt.2.1 g hs; omega
      · have := hlm g hs; omega
end
end Go.Proofs.Ytjmcjbmnggecgaa
