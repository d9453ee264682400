/- DevPlays: the device and the document's own, side by side; each call once. Conditions: none but sizes. -/
import Derived.Test.YtjmcjbmnggecgaaRefY
import Derived.Test.YtjmcjbmnggecgaaFus
namespace Go.Proofs.Ytjmcjbmnggecgaa
open Go.RowKit
set_option maxRecDepth 100000

/-! ### the plain law -/
def MDev.sync (m : MDev) : Int × MDev :=
  if m.dead then (50, m) else if m.fuse = 0 then (50, { m with dead := true }) else (0, { m.lit with l := applyW m.l m.W, W := [] })
def MDev.crash (m : MDev) (ks : List Bool) : MDev := { m with l := applyK m.l m.W ks m.W.length, W := [], dead := false, fuse := -1 }
def MDev.read (m : MDev) (i : Int) : List UInt8 × Int × MDev :=
  if m.dead then ([], 50, m) else if i < 0 ∨ (m.l.length : Int) ≤ i then ([], 1, m) else (m.get i.toNat, 0, { m with calls := wrap64 (m.calls + 1) })

/-- the two go alike: but for the fuse of a dead one -/
structure Sim (m mr : MDev) : Prop where
  l : mr.l = m.l
  W : mr.W = m.W
  dead : mr.dead = m.dead
  calls : mr.calls = m.calls
  fuse : m.dead = false → mr.fuse = m.fuse

theorem Sim.refl (m : MDev) : Sim m m := ⟨rfl, rfl, rfl, rfl, fun _ => rfl⟩
theorem Sim.cases {m mr : MDev} (h : Sim m mr) : mr = m ∨ m.dead = true ∧ mr = { m with fuse := mr.fuse } := by
  obtain ⟨l, W, f, d, c⟩ := m
  obtain ⟨l', W', f', d', c'⟩ := mr
  obtain ⟨h1, h2, h3, h4, h5⟩ := h
  simp only at h1 h2 h3 h4 h5
  subst h1 h2 h3 h4
  cases d' with
  | false => left; rw [h5 rfl]
  | true => right; exact ⟨rfl, rfl⟩
theorem Sim.write {m mr : MDev} (h : Sim m mr) (i : Int) (b : List UInt8) : (mr.write i b).1 = (m.write i b).1 ∧ Sim (m.write i b).2 (mr.write i b).2 := by
  rcases h.cases with rfl | ⟨hd, e⟩
  · exact ⟨rfl, Sim.refl _⟩
  · have h2 : m.write i b = (50, m) := by simp [MDev.write, hd]
    have h3 : mr.write i b = (50, mr) := by simp [MDev.write, h.dead, hd]
    rw [h2, h3]; exact ⟨rfl, h⟩
theorem Sim.sync {m mr : MDev} (h : Sim m mr) : mr.sync.1 = m.sync.1 ∧ Sim m.sync.2 mr.sync.2 := by
  rcases h.cases with rfl | ⟨hd, e⟩
  · exact ⟨rfl, Sim.refl _⟩
  · have h2 : m.sync = (50, m) := by simp [MDev.sync, hd]
    have h3 : mr.sync = (50, mr) := by simp [MDev.sync, h.dead, hd]
    rw [h2, h3]; exact ⟨rfl, h⟩
theorem Sim.read {m mr : MDev} (h : Sim m mr) (i : Int) : (mr.read i).1 = (m.read i).1 ∧ (mr.read i).2.1 = (m.read i).2.1 ∧ Sim (m.read i).2.2 (mr.read i).2.2 := by
  rcases h.cases with rfl | ⟨hd, e⟩
  · exact ⟨rfl, rfl, Sim.refl _⟩
  · have h2 : m.read i = ([], 50, m) := by simp [MDev.read, hd]
    have h3 : mr.read i = ([], 50, mr) := by simp [MDev.read, h.dead, hd]
    rw [h2, h3]; exact ⟨rfl, rfl, h⟩
theorem Sim.crash {m mr : MDev} (h : Sim m mr) (ks : List Bool) : Sim (m.crash ks) (mr.crash ks) :=
  ⟨by simp [MDev.crash, h.l, h.W], rfl, rfl, h.calls, fun _ => rfl⟩
theorem Sim.setFuse {m mr : MDev} (h : Sim m mr) (k : Int) : Sim (m.setFuse k) { mr with fuse := max k (-1) } := by
  cases hd : m.dead
  · have : m.setFuse k = { m with fuse := max k (-1) } := by simp [MDev.setFuse, hd]
    rw [this]; exact ⟨h.l, h.W, h.dead, h.calls, fun _ => rfl⟩
  · have : m.setFuse k = m := by simp [MDev.setFuse, hd]
    rw [this]; exact ⟨h.l, h.W, h.dead, h.calls, fun h' => by rw [hd] at h'; cases h'⟩

/-! ### side by side in memory -/
structure P0 (w wr : World) (D R : Nat) (m mr : MDev) (F G Fr X : Nat → Prop) : Prop where
  d : DevAt wr D F G m
  r : RefAt wr R Fr mr
  ge : ∀ i, F i ∨ G i ∨ Fr i → w.heap.size ≤ i
  dj : ∀ i, Fr i → ¬ F i ∧ ¬ G i
  be : Below w.heap.size w wr
  x : ∀ i, X i → w.heap.size ≤ i ∧ i < wr.heap.size ∧ ¬ F i ∧ ¬ G i ∧ ¬ Fr i
/-- X: blocks of the law's own -/
def Q0 (w wr : World) (D R : Nat) (m mr : MDev) (X : Nat → Prop) : Prop := ∃ F G Fr, P0 w wr D R m mr F G Fr X
structure Same (X : Nat → Prop) (w w' : World) : Prop where
  size : w.heap.size ≤ w'.heap.size
  block : ∀ i, X i → w'.heap[i]? = w.heap[i]?

section
variable {w wr w' : World} {D R D' R' : Nat} {m mr m' mr' : MDev} {F G Fr F' G' Fr' X X' : Nat → Prop}
theorem Q0.below (h : Q0 w wr D R m mr X) : Below w.heap.size w wr := by obtain ⟨_, _, _, h⟩ := h; exact h.be
theorem Q0.mono (h : Q0 w wr D R m mr X) (hX : ∀ i, X' i → X i) : Q0 w wr D R m mr X' := by
  obtain ⟨F, G, Fr, h⟩ := h
  exact ⟨F, G, Fr, h.d, h.r, h.ge, h.dj, h.be, fun i hi => h.x i (hX i hi)⟩
theorem Q0.none (h : Q0 w wr D R m mr X) : Q0 w wr D R m mr (fun _ => False) := h.mono fun _ h => h.elim
theorem Q0.alloc (h : Q0 w wr D R m mr X) (o : Obj) : Q0 w (wr.alloc o) D R m mr (fun i => X i ∨ i = wr.heap.size) := by
  obtain ⟨F, G, Fr, h⟩ := h
  have hb : Below wr.heap.size wr (wr.alloc o) := (Below.refl _ _).alloc (Nat.le_refl _) _
  refine ⟨F, G, Fr, h.d.below hb, h.r.below hb, h.ge, h.dj, h.be.trans (hb.mono h.be.size), ?_⟩
  rintro i (hi | rfl)
  · obtain ⟨a, b, c⟩ := h.x i hi
    exact ⟨a, Nat.lt_of_lt_of_le b hb.size, c⟩
  · exact ⟨h.be.size, by simp, fun hf => by have := h.d.lt _ hf; omega, fun hf => by have := h.d.lg _ hf; omega, fun hf => by have := h.r.lt _ hf; omega⟩
theorem Q0.fresh (h : Q0 w wr D R m mr X) (hb : Below wr.heap.size wr w') : Q0 w w' D R m mr (fun i => X i ∨ (wr.heap.size ≤ i ∧ i < w'.heap.size)) := by
  obtain ⟨F, G, Fr, h⟩ := h
  refine ⟨F, G, Fr, h.d.below hb, h.r.below hb, h.ge, h.dj, h.be.trans (hb.mono h.be.size), ?_⟩
  rintro i (hi | hi)
  · obtain ⟨a, b, c⟩ := h.x i hi
    exact ⟨a, Nat.lt_of_lt_of_le b hb.size, c⟩
  · have := h.be.size
    exact ⟨by omega, hi.2, fun hf => by have := h.d.lt _ hf; omega, fun hf => by have := h.d.lg _ hf; omega, fun hf => by have := h.r.lt _ hf; omega⟩
theorem Q0.setCell (h : Q0 w wr D R m mr X) {p : Addr} (hp : X p.block) (v : Value) : Q0 w (wr.setCell p v) D R m mr X := by
  obtain ⟨F, G, Fr, h⟩ := h
  have hc : Chg X wr (wr.setCell p v) := (Chg.refl X wr).setCell (fun _ => hp) v
  refine ⟨F, G, Fr, h.d.frame hc (fun i hi => ⟨(h.x i hi).2.2.1, (h.x i hi).2.2.2.1⟩), h.r.frame hc (fun i hi => (h.x i hi).2.2.2.2), h.ge, h.dj, h.be.trans (hc.below h.be.size fun i hi => (h.x i hi).1), fun i hi => ?_⟩
  obtain ⟨a, b, c⟩ := h.x i hi
  exact ⟨a, Nat.lt_of_lt_of_le b hc.size, c⟩
theorem P0.dev (h : P0 w wr D R m mr F G Fr X) (hd : DevAt w' D' F' G' m') (hF : ∀ i, F' i → F i ∨ wr.heap.size ≤ i) (hG : ∀ i, G' i → G i ∨ wr.heap.size ≤ i) (hc : Chg F wr w') : Q0 w w' D' R m' mr X ∧ Same X wr w' := by
  have hs := h.be.size
  refine ⟨⟨F', G', Fr, hd, h.r.frame hc (fun i hi hf => (h.dj i hf).1 hi), ?_, ?_, h.be.trans (hc.below hs fun i hi => h.ge i (.inl hi)), ?_⟩, hc.size, fun i hi => hc.block i (h.x i hi).2.1 (h.x i hi).2.2.1⟩
  · rintro i (hi | hi | hi)
    · rcases hF i hi with hi | hi
      · exact h.ge i (.inl hi)
      · omega
    · rcases hG i hi with hi | hi
      · exact h.ge i (.inr (.inl hi))
      · omega
    · exact h.ge i (.inr (.inr hi))
  · intro i hi
    have := h.r.lt i hi
    exact ⟨fun hf => (hF i hf).elim (h.dj i hi).1 (fun h => by omega), fun hf => (hG i hf).elim (h.dj i hi).2 (fun h => by omega)⟩
  · intro i hi
    obtain ⟨a, b, c, d, e⟩ := h.x i hi
    have := hc.size
    exact ⟨a, by omega, fun hf => (hF i hf).elim c (fun h => by omega), fun hf => (hG i hf).elim d (fun h => by omega), e⟩
theorem P0.ref (h : P0 w wr D R m mr F G Fr X) (hd : RefAt w' R' Fr' mr') (hF : ∀ i, Fr' i → Fr i ∨ wr.heap.size ≤ i) (hc : Chg Fr wr w') : Q0 w w' D R' m mr' X ∧ Same X wr w' := by
  have hs := h.be.size
  refine ⟨⟨F, G, Fr', h.d.frame hc (fun i hi => h.dj i hi), hd, ?_, ?_, h.be.trans (hc.below hs fun i hi => h.ge i (.inr (.inr hi))), ?_⟩, hc.size, fun i hi => hc.block i (h.x i hi).2.1 (h.x i hi).2.2.2.2⟩
  · rintro i (hi | hi | hi)
    · exact h.ge i (.inl hi)
    · exact h.ge i (.inr (.inl hi))
    · rcases hF i hi with hi | hi
      · exact h.ge i (.inr (.inr hi))
      · omega
  · intro i hi
    rcases hF i hi with hi | hi
    · exact h.dj i hi
    · exact ⟨fun hf => by have := h.d.lt i hf; omega, fun hf => by have := h.d.lg i hf; omega⟩
  · intro i hi
    obtain ⟨a, b, c, d, e⟩ := h.x i hi
    have := hc.size
    exact ⟨a, by omega, c, d, fun hf => (hF i hf).elim e (fun h => by omega)⟩
theorem Same.trans (h : Same X w wr) (k : Same X wr w') : Same X w w' := ⟨Nat.le_trans h.size k.size, fun i hi => (k.block i hi).trans (h.block i hi)⟩
theorem Same.refl (w : World) : Same X w w := ⟨Nat.le_refl _, fun _ _ => rfl⟩
theorem Same.cell (h : Same X w w') {p : Addr} (hp : X p.block) : w'.cell? p = w.cell? p := World.cell?_of_block (w := w) (h.block p.block hp)
theorem Same.frozen (h : Same X w w') {p : Addr} (hp : X p.block) : w'.frozen? p = w.frozen? p := World.frozen?_of_block (w := w) (h.block p.block hp)
theorem Same.rd {size n : Nat} {A : Option Addr} {xs : List Value} (h : Same X w w') (hr : Rd w size A n xs) (hA : ∀ ad, A = some ad → X ad.block) : Rd w' size A n xs := hr.keep h.size fun ad e _ => h.block _ (hA ad e)

/-! ### each call once -/
theorem q_write (h : Q0 w wr D R m mr X) (i : Int) (A : Option Addr) (c : Nat) (bs : List UInt8) (hr : Rd wr 1 A bs.length (u8s bs)) (hA : ∀ ad, A = some ad → X ad.block) (hW : m.W.length ≤ 1000000) :
    Calls Try.prog 12 #[.pointer (some ⟨D, 0, none⟩), .int .i64 i, .slice A bs.length c] wr fun e w' => e = .returned (.int .i64 (m.write i bs).1) ∧ Q0 w w' D R (m.write i bs).2 mr X ∧ Same X wr w' := by
  obtain ⟨F, G, Fr, h⟩ := h
  cases hd : m.dead
  · by_cases ha : i < 0 ∨ (m.l.length : Int) ≤ i ∨ bs.length ≠ 128
    · refine (write_arg D F G m wr h.d i A bs.length c hd ha).mono ?_
      rintro e w' ⟨rfl, rfl⟩
      have e2 : m.write i bs = (1, m) := by simp [MDev.write, hd, ha]
      rw [e2]; exact ⟨rfl, ⟨F, G, Fr, h⟩, Same.refl _⟩
    · have h0 : 0 ≤ i := by omega
      have h1 : i < m.l.length := by omega
      have hl : bs.length = 128 := by omega
      by_cases hf : m.fuse = 0
      · rw [hl]
        refine (write_fuse D F G m wr h.d i A c hd h0 h1 hf).mono ?_
        rintro e w' ⟨rfl, h2, h3⟩
        have e2 : m.write i bs = (50, { m with dead := true }) := by simp [MDev.write, hd, hf]; omega
        rw [e2]
        exact ⟨rfl, h.dev h2 (fun _ h => .inl h) (fun _ h => .inl h) (h3.mono (by rintro k _ rfl; exact h.d.own))⟩
      · obtain ⟨k, rfl⟩ : ∃ k : Nat, i = k := ⟨i.toNat, by omega⟩
        rw [hl] at hr ⊢
        refine (write_ok D F G m wr h.d k A c bs hd (by omega) hf hr (fun ad e hD => (h.x _ (hA ad e)).2.2.1 (by rw [hD]; exact h.d.own)) hW).mono ?_
        rintro e w' ⟨rfl, F', G', h2, h3, h4, h5⟩
        have e2 : m.write k bs = (0, { m.lit with W := m.W ++ [(k, bs)] }) := by
          simp only [MDev.write, hd, hf, if_neg ha]; simp
        rw [e2]
        exact ⟨rfl, h.dev h2 h3 h4 h5⟩
  · refine (write_dead D F G m wr h.d i _ hd).mono ?_
    rintro e w' ⟨rfl, rfl⟩
    have e2 : m.write i bs = (50, m) := by simp [MDev.write, hd]
    rw [e2]; exact ⟨rfl, ⟨F, G, Fr, h⟩, Same.refl _⟩

theorem q_rwrite (h : Q0 w wr D R m mr X) (i : Int) (bs : List UInt8) (hW : mr.W.length ≤ 1000000) :
    Calls Try.prog 22 #[.pointer (some ⟨R, 0, none⟩), .int .i64 i, .string ⟨bs.toArray⟩] wr fun e w' => e = .returned (.int .i64 (mr.write i bs).1) ∧ Q0 w w' D R m (mr.write i bs).2 X ∧ Same X wr w' := by
  obtain ⟨F, G, Fr, h⟩ := h
  cases hd : mr.dead
  · by_cases ha : i < 0 ∨ (mr.l.length : Int) ≤ i ∨ bs.length ≠ 128
    · refine (rwrite_arg R Fr mr wr h.r i bs hd ha).mono ?_
      rintro e w' ⟨rfl, rfl⟩
      have e2 : mr.write i bs = (1, mr) := by simp [MDev.write, hd, ha]
      rw [e2]; exact ⟨rfl, ⟨F, G, Fr, h⟩, Same.refl _⟩
    · have h0 : 0 ≤ i := by omega
      have h1 : i < mr.l.length := by omega
      have hl : bs.length = 128 := by omega
      by_cases hf : mr.fuse = 0
      · refine (rwrite_fuse R Fr mr wr h.r i bs hl hd h0 h1 hf).mono ?_
        rintro e w' ⟨rfl, h2, h3⟩
        have e2 : mr.write i bs = (50, { mr with dead := true }) := by simp [MDev.write, hd, hf]; omega
        rw [e2]
        exact ⟨rfl, h.ref h2 (fun _ h => .inl h) (h3.mono (by rintro k _ rfl; exact h.r.own))⟩
      · obtain ⟨k, rfl⟩ : ∃ k : Nat, i = k := ⟨i.toNat, by omega⟩
        refine (rwrite_ok R Fr mr wr h.r k bs hl hd (by omega) hf hW).mono ?_
        rintro e w' ⟨rfl, F', h2, h3, h5⟩
        have e2 : mr.write k bs = (0, { mr.lit with W := mr.W ++ [(k, bs)] }) := by
          simp only [MDev.write, hd, hf, if_neg ha]; simp
        rw [e2]
        exact ⟨rfl, h.ref h2 h3 h5⟩
  · refine (rwrite_dead R Fr mr wr h.r i _ hd).mono ?_
    rintro e w' ⟨rfl, rfl⟩
    have e2 : mr.write i bs = (50, mr) := by simp [MDev.write, hd]
    rw [e2]; exact ⟨rfl, ⟨F, G, Fr, h⟩, Same.refl _⟩

theorem q_sync (h : Q0 w wr D R m mr X) (hW : m.W.length ≤ 1000000) :
    Calls Try.prog 14 #[.pointer (some ⟨D, 0, none⟩)] wr fun e w' => e = .returned (.int .i64 m.sync.1) ∧ Q0 w w' D R m.sync.2 mr X ∧ Same X wr w' := by
  obtain ⟨F, G, Fr, h⟩ := h
  cases hd : m.dead
  · by_cases hf : m.fuse = 0
    · refine (sync_fuse D F G m wr h.d hd hf).mono ?_
      rintro e w' ⟨rfl, h2, h3⟩
      have e2 : m.sync = (50, { m with dead := true }) := by simp [MDev.sync, hd, hf]
      rw [e2]
      exact ⟨rfl, h.dev h2 (fun _ h => .inl h) (fun _ h => .inl h) (h3.mono (by rintro k _ rfl; exact h.d.own))⟩
    · refine (sync_ok D F G m wr h.d hd hf hW).mono ?_
      rintro e w' ⟨rfl, h2, h5⟩
      have e2 : m.sync = (0, { m.lit with l := applyW m.l m.W, W := [] }) := by simp [MDev.sync, hd, hf]
      rw [e2]
      exact ⟨rfl, h.dev h2 (fun _ h => .inl h) (fun _ h => .inl h) h5⟩
  · refine (sync_dead D F G m wr h.d hd).mono ?_
    rintro e w' ⟨rfl, rfl⟩
    have e2 : m.sync = (50, m) := by simp [MDev.sync, hd]
    rw [e2]; exact ⟨rfl, ⟨F, G, Fr, h⟩, Same.refl _⟩

theorem q_rsync (h : Q0 w wr D R m mr X) (hW : mr.W.length ≤ 1000000) :
    Calls Try.prog 24 #[.pointer (some ⟨R, 0, none⟩)] wr fun e w' => e = .returned (.int .i64 mr.sync.1) ∧ Q0 w w' D R m mr.sync.2 X ∧ Same X wr w' := by
  obtain ⟨F, G, Fr, h⟩ := h
  cases hd : mr.dead
  · by_cases hf : mr.fuse = 0
    · refine (rsync_fuse R Fr mr wr h.r hd hf).mono ?_
      rintro e w' ⟨rfl, h2, h3⟩
      have e2 : mr.sync = (50, { mr with dead := true }) := by simp [MDev.sync, hd, hf]
      rw [e2]
      exact ⟨rfl, h.ref h2 (fun _ h => .inl h) (h3.mono (by rintro k _ rfl; exact h.r.own))⟩
    · refine (rsync_ok R Fr mr wr h.r hd hf hW).mono ?_
      rintro e w' ⟨rfl, h2, h5⟩
      have e2 : mr.sync = (0, { mr.lit with l := applyW mr.l mr.W, W := [] }) := by simp [MDev.sync, hd, hf]
      rw [e2]
      exact ⟨rfl, h.ref h2 (fun _ h => .inl h) h5⟩
  · refine (rsync_dead R Fr mr wr h.r hd).mono ?_
    rintro e w' ⟨rfl, rfl⟩
    have e2 : mr.sync = (50, mr) := by simp [MDev.sync, hd]
    rw [e2]; exact ⟨rfl, ⟨F, G, Fr, h⟩, Same.refl _⟩

theorem q_crash (h : Q0 w wr D R m mr X) (hW : m.W.length ≤ 1000000) (KA : Option Addr) (kc : Nat) (ks : List Bool) (hr : Rd w 1 KA ks.length (bls ks)) (hks : ks.length ≤ 9223372036854775807) :
    Calls Try.prog 15 #[.pointer (some ⟨D, 0, none⟩), .slice KA ks.length kc] wr fun e w' => e = .returned (.tuple #[]) ∧ Q0 w w' D R (m.crash ks) mr X ∧ Same X wr w' := by
  obtain ⟨F, G, Fr, h⟩ := h
  refine (crash_any D F G m wr h.d hW KA kc ks (hr.below h.be) (fun hp ad e hf => ?_) hks).mono ?_
  · obtain ⟨ad', e', hlt, _⟩ := hr.2 hp
    rw [e] at e'
    injection e' with e'
    subst e'
    have := h.ge _ (.inl hf)
    omega
  · rintro e w' ⟨rfl, h2, h5⟩
    exact ⟨rfl, h.dev h2 (fun _ h => .inl h) (fun _ h => .inl h) h5⟩

theorem q_rcrash (h : Q0 w wr D R m mr X) (hW : mr.W.length ≤ 1000000) (KA : Option Addr) (kc : Nat) (ks : List Bool) (hr : Rd w 1 KA ks.length (bls ks)) (hks : ks.length ≤ 9223372036854775807) :
    Calls Try.prog 25 #[.pointer (some ⟨R, 0, none⟩), .slice KA ks.length kc] wr fun e w' => e = .returned (.tuple #[]) ∧ Q0 w w' D R m (mr.crash ks) X ∧ Same X wr w' := by
  obtain ⟨F, G, Fr, h⟩ := h
  refine (rcrash_any R Fr mr wr h.r hW KA kc ks (hr.below h.be) (fun hp ad e hf => ?_) hks).mono ?_
  · obtain ⟨ad', e', hlt, _⟩ := hr.2 hp
    rw [e] at e'
    injection e' with e'
    subst e'
    have := h.ge _ (.inr (.inr hf))
    omega
  · rintro e w' ⟨rfl, h2, h5⟩
    exact ⟨rfl, h.ref h2 (fun _ h => .inl h) h5⟩

theorem q_read (h : Q0 w wr D R m mr X) (i : Int) (hW : m.W.length ≤ 1000000) :
    Calls Try.prog 16 #[.pointer (some ⟨D, 0, none⟩), .int .i64 i] wr fun e w' => ∃ A c, e = .returned (.tuple #[.slice A (m.read i).1.length c, .int .i64 (m.read i).2.1]) ∧ Q0 w w' D R (m.read i).2.2 mr (fun i => X i ∨ (wr.heap.size ≤ i ∧ ∃ ad, A = some ad ∧ ad.block = i)) ∧ Same X wr w' ∧
      (A = none ∧ (m.read i).1 = [] ∨ ∃ g, A = some ⟨g, 0, none⟩ ∧ wr.heap.size ≤ g ∧ Blk w' g 5 (u8s (m.read i).1).toArray ∧ (m.read i).1.length = 128) := by
  obtain ⟨F, G, Fr, h⟩ := h
  have hk : ∀ X' : Nat → Prop, (∀ i, X' i → X i) → Q0 w wr D R m mr X' := fun X' hX => Q0.mono ⟨F, G, Fr, h⟩ hX
  cases hd : m.dead
  · by_cases ha : i < 0 ∨ (m.l.length : Int) ≤ i
    · refine (read_arg D F G m wr h.d i hd ha).mono ?_
      rintro e w' ⟨rfl, rfl⟩
      have e2 : m.read i = ([], 1, m) := by simp [MDev.read, hd, ha]
      rw [e2]; exact ⟨none, 0, rfl, hk _ (fun i hi => hi.elim id fun ⟨_, _, h, _⟩ => by cases h), Same.refl _, .inl ⟨rfl, rfl⟩⟩
    · obtain ⟨k, rfl⟩ : ∃ k : Nat, i = k := ⟨i.toNat, by omega⟩
      refine (read_ok D F G m wr h.d k hd (by omega) hW).mono ?_
      rintro e w' ⟨g, rfl, hg, hb, h2, h3⟩
      have e2 : m.read k = (m.get k, 0, { m with calls := wrap64 (m.calls + 1) }) := by simp only [MDev.read, hd, if_neg ha]; simp
      have hl : (m.get k).length = 128 := by
        obtain ⟨lv, cv, ls, ws, hb0, hm0⟩ := h.d.mem
        have hlt : k < m.l.length := by omega
        refine getW_length 128 _ _ (fun j e he => by obtain ⟨_, v, _, hs⟩ := hm0.sc j e he; exact hs.1) _ ?_
        obtain ⟨v, _, hs⟩ := hm0.sl k _ (List.getElem?_eq_getElem hlt)
        rw [List.getD_eq_getElem?_getD, List.getElem?_eq_getElem hlt, Option.getD_some]
        rcases hs with ⟨_, h⟩ | hs
        · rw [h]; simp [zeros]
        · exact hs.1
      obtain ⟨F2, G2, Fr2, hp⟩ := (h.dev h2 (fun _ h => .inl h) (fun _ h => .inl h) (h3.mono (by rintro k _ rfl; exact h.d.own))).1
      have hq := h.dev h2 (fun _ h => .inl h) (fun _ h => .inl h) (h3.mono (by rintro k _ rfl; exact h.d.own))
      rw [e2, hl]
      refine ⟨some ⟨g, 0, none⟩, 128, rfl, ?_, hq.2, .inr ⟨g, rfl, hg, hb, rfl⟩⟩
      have hs := h.be.size
      have hs3 := h3.size
      refine ⟨F, G, Fr, h2, h.r.frame h3 (fun i hi hf => by subst hi; exact (h.dj _ hf).1 h.d.own), h.ge, h.dj, hp.be, ?_⟩
      rintro j (hj | ⟨_, ad, hA, hj⟩)
      · obtain ⟨a, b, c⟩ := h.x j hj
        exact ⟨a, by omega, c⟩
      · injection hA with hA
        subst hA
        have hj' : g = j := hj
        subst hj'
        exact ⟨by omega, hb.lt, fun hf => by have := h.d.lt _ hf; omega, fun hf => by have := h.d.lg _ hf; omega, fun hf => by have := h.r.lt _ hf; omega⟩
  · refine (read_dead D F G m wr h.d i hd).mono ?_
    rintro e w' ⟨rfl, rfl⟩
    have e2 : m.read i = ([], 50, m) := by simp [MDev.read, hd]
    rw [e2]; exact ⟨none, 0, rfl, hk _ (fun i hi => hi.elim id fun ⟨_, _, h, _⟩ => by cases h), Same.refl _, .inl ⟨rfl, rfl⟩⟩

theorem q_rread (h : Q0 w wr D R m mr X) (i : Int) (hW : mr.W.length ≤ 1000000) :
    Calls Try.prog 23 #[.pointer (some ⟨R, 0, none⟩), .int .i64 i] wr fun e w' => e = .returned (.tuple #[.string ⟨(mr.read i).1.toArray⟩, .int .i64 (mr.read i).2.1]) ∧ Q0 w w' D R m (mr.read i).2.2 X ∧ Same X wr w' := by
  obtain ⟨F, G, Fr, h⟩ := h
  cases hd : mr.dead
  · by_cases ha : i < 0 ∨ (mr.l.length : Int) ≤ i
    · refine (rread_arg R Fr mr wr h.r i hd ha).mono ?_
      rintro e w' ⟨rfl, rfl⟩
      have e2 : mr.read i = ([], 1, mr) := by simp [MDev.read, hd, ha]
      rw [e2]; exact ⟨rfl, ⟨F, G, Fr, h⟩, Same.refl _⟩
    · obtain ⟨k, rfl⟩ : ∃ k : Nat, i = k := ⟨i.toNat, by omega⟩
      refine (rread_ok R Fr mr wr h.r k hd (by omega) hW).mono ?_
      rintro e w' ⟨rfl, h2, h3⟩
      have e2 : mr.read k = (mr.get k, 0, { mr with calls := wrap64 (mr.calls + 1) }) := by simp only [MDev.read, hd, if_neg ha]; simp
      rw [e2]
      exact ⟨rfl, h.ref h2 (fun _ h => .inl h) (h3.mono (by rintro k _ rfl; exact h.r.own))⟩
  · refine (rread_dead R Fr mr wr h.r i hd).mono ?_
    rintro e w' ⟨rfl, rfl⟩
    have e2 : mr.read i = ([], 50, mr) := by simp [MDev.read, hd]
    rw [e2]; exact ⟨rfl, ⟨F, G, Fr, h⟩, Same.refl _⟩

theorem q_fuse (h : Q0 w wr D R m mr X) (k : Int) (hk : k ≤ 9223372036854775807) :
    Calls Try.prog 19 #[.pointer (some ⟨D, 0, none⟩), .int .i64 k] wr fun e w' => e = .returned (.tuple #[]) ∧ Q0 w w' D R (m.setFuse k) mr X ∧ Same X wr w' := by
  obtain ⟨F, G, Fr, h⟩ := h
  refine (fuse_any D F G m wr h.d k hk).mono ?_
  rintro e w' ⟨rfl, h2, h3⟩
  exact ⟨rfl, h.dev h2 (fun _ h => .inl h) (fun _ h => .inl h) (h3.mono (by rintro k _ rfl; exact h.d.own))⟩

theorem q_rfuse (h : Q0 w wr D R m mr X) (k : Int) (hk : k ≤ 9223372036854775807) : (∃ v, wr.cell? ⟨R, 2, none⟩ = some v) ∧ wr.frozen? ⟨R, 2, none⟩ = false ∧ Q0 w (wr.setCell ⟨R, 2, none⟩ (.int .i64 (max k (-1)))) D R m { mr with fuse := max k (-1) } X ∧ Same X wr (wr.setCell ⟨R, 2, none⟩ (.int .i64 (max k (-1)))) := by
  obtain ⟨F, G, Fr, h⟩ := h
  obtain ⟨lv, cv, hb, hm⟩ := h.r.mem
  obtain ⟨_, _, c2, _, _⟩ := blk5 hb
  exact ⟨⟨_, c2⟩, hb.frozen 2, h.ref (h.r.fields hm hb (chg_set R 2 _) (hb.set_ 2 _) (f := max k (-1)) (d := mr.dead) (c := mr.calls) (by omega) (by omega)) (fun _ h => .inl h) ((chg_set R 2 _).mono (by rintro k _ rfl; exact h.r.own))⟩

theorem q_copy (h : Q0 w wr D R m mr X) (hW : m.W.length ≤ 1000000) :
    Calls Try.prog 26 #[.pointer (some ⟨D, 0, none⟩)] wr fun e w' => ∃ D', e = .returned (.pointer (some ⟨D', 0, none⟩)) ∧ Q0 w w' D' R m mr X ∧ Same X wr w' := by
  obtain ⟨F, G, Fr, h⟩ := h
  refine (copy_any D F G m wr h.d hW).mono ?_
  rintro e w' ⟨D', F', rfl, h2, h3, h4⟩
  exact ⟨D', rfl, h.dev h2 (fun i hi => .inr (h3 i hi)) (fun _ h => .inl h) (Chg.of_below h4)⟩

theorem q_rcopy (h : Q0 w wr D R m mr X) (hW : mr.W.length ≤ 1000000) :
    Calls Try.prog 27 #[.pointer (some ⟨R, 0, none⟩)] wr fun e w' => ∃ R', e = .returned (.pointer (some ⟨R', 0, none⟩)) ∧ Q0 w w' D R' m mr X ∧ Same X wr w' := by
  obtain ⟨F, G, Fr, h⟩ := h
  refine (rcopy_any R Fr mr wr h.r hW).mono ?_
  rintro e w' ⟨R', F', rfl, h2, h3, h4⟩
  exact ⟨R', rfl, h.ref h2 (fun i hi => .inr (h3 i hi)) (Chg.of_below h4)⟩

/-- what region 40 asks -/
theorem q_pending (h : Q0 w wr D R m mr X) : Calls Try.prog 17 #[.pointer (some ⟨D, 0, none⟩)] wr fun e w' => e = .returned (.int .i64 m.W.length) ∧ wr = w' := by
  obtain ⟨F, G, Fr, h⟩ := h; exact pending_any D F G m wr h.d
theorem q_size (h : Q0 w wr D R m mr X) : Calls Try.prog 28 #[.pointer (some ⟨D, 0, none⟩)] wr fun e w' => e = .returned (.int .i64 m.l.length) ∧ wr = w' := by
  obtain ⟨F, G, Fr, h⟩ := h; exact size_any D F G m wr h.d
theorem q_calls (h : Q0 w wr D R m mr X) : Calls Try.prog 29 #[.pointer (some ⟨D, 0, none⟩)] wr fun e w' => e = .returned (.int .i64 m.calls) ∧ wr = w' := by
  obtain ⟨F, G, Fr, h⟩ := h; exact calls_any D F G m wr h.d
theorem q_dead (h : Q0 w wr D R m mr X) : Calls Try.prog 20 #[.pointer (some ⟨D, 0, none⟩)] wr fun e w' => e = .returned (.bool m.dead) ∧ wr = w' := by
  obtain ⟨F, G, Fr, h⟩ := h; exact dead_any D F G m wr h.d
theorem q_cells (h : Q0 w wr D R m mr X) : ∃ CA cc, wr.cell? ⟨R, 1, none⟩ = some (.slice CA mr.W.length cc) ∧ wr.cell? ⟨R, 3, none⟩ = some (.bool mr.dead) ∧ wr.cell? ⟨R, 4, none⟩ = some (.int .i64 mr.calls) := by
  obtain ⟨F, G, Fr, h⟩ := h
  obtain ⟨lv, cv, hb, hm⟩ := h.r.mem
  obtain ⟨CA, cc, rfl, _⟩ := own_form hm.oc
  obtain ⟨_, c1, _, c3, c4⟩ := blk5 hb
  exact ⟨CA, cc, c1, c3, c4⟩
end
end Go.Proofs.Ytjmcjbmnggecgaa
