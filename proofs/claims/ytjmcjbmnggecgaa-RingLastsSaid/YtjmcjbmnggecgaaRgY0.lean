/- RingLasts: a ring whose device may fail, from its fuse over its flush to the crash behind it. Conditions: sizes. -/
import Derived.Test.YtjmcjbmnggecgaaRgT0
namespace Go.Proofs.Ytjmcjbmnggecgaa
open Go.RowKit
set_option maxRecDepth 100000
set_option linter.unusedVariables false
set_option linter.unusedSimpArgs false

/-- a ring over a device with a fuse -/
structure RF (w wr : World) (R D : Nat) (q : MRing) (l : List (List UInt8)) (v : Value) (all : List UInt8) (F G B : Nat → Prop) (f : Int) : Prop where
  dv : Dv wr D F G l [] false f
  mem : RgMem wr R D B q
  ge : ∀ i, F i ∨ G i ∨ B i → w.heap.size ≤ i
  dis : ∀ i, B i → ¬ F i ∧ ¬ G i
  be : Below w.heap.size w wr
  ok : QOk q
  live : q.dead = false
  fn : q.fr + q.n ≤ l.length
  l8 : l.length ≤ 8192
  my : Mine w wr (fun i => F i ∨ G i ∨ B i) v all
/-- a device behind a flush -/
structure RC (w wr : World) (D : Nat) (l : List (List UInt8)) (W : List (Nat × List UInt8)) (v : Value) (all : List UInt8) (F G : Nat → Prop) : Prop where
  dv : ∃ dd f, Dv wr D F G l W dd f
  few : W.length ≤ 1000000
  ge : ∀ i, F i ∨ G i → w.heap.size ≤ i
  be : Below w.heap.size w wr
  my : Mine w wr (fun i => F i ∨ G i) v all
section
variable {w wr w2 : World} {R D : Nat} {F G B : Nat → Prop} {q : MRing} {l : List (List UInt8)} {W : List (Nat × List UInt8)} {v : Value} {all d : List UInt8} {f : Int} {fr n start : Nat}
theorem RV.rf (h : RV w wr R D q l v all F G B) : RF w wr R D q l v all F G B (-1) := ⟨h.rl.up.dv, h.rl.mem, h.rl.ge, h.rl.dis, h.rl.be, h.rl.ok, h.rl.live, h.rl.fn, h.rl.l8, h.my⟩
theorem RF.below (h : RF w wr R D q l v all F G B f) (hb : Below wr.heap.size wr w2) : RF w w2 R D q l v all F G B f :=
  ⟨h.dv.below hb, h.mem.below hb, h.ge, h.dis, h.be.trans (hb.mono h.be.size), h.ok, h.live, h.fn, h.l8, h.my.below hb⟩
theorem RC.below (h : RC w wr D l W v all F G) (hb : Below wr.heap.size wr w2) : RC w w2 D l W v all F G := by
  obtain ⟨dd, f, h1⟩ := h.dv
  exact ⟨⟨dd, f, h1.below hb⟩, h.few, h.ge, h.be.trans (hb.mono h.be.size), h.my.below hb⟩
theorem rf_fuse (h : RV w wr R D q l v all F G B) (k : Int) (hk : k ≤ 9223372036854775807) :
    Calls Try.prog 19 #[.pointer (some ⟨D, 0, none⟩), .int .i64 k] wr fun e w' => e = .returned (.tuple #[]) ∧ ∃ f, RF w w' R D q l v all F G B f := by
  obtain ⟨m, hd, rfl, hW, hdd, hf⟩ := h.rl.up
  refine (fuse_any D F G m wr hd k hk).mono ?_
  rintro e w' ⟨rfl, h1, h2⟩
  have hD : F D := hd.own
  have e1 : m.setFuse k = { m with fuse := max k (-1) } := by simp [MDev.setFuse, hdd]
  have hs := h.rl.be.size
  refine ⟨rfl, max k (-1), ⟨_, h1, by rw [e1], by rw [e1]; exact hW, by rw [e1]; exact hdd, by rw [e1]⟩, h.rl.mem.chg h2 (fun i hi e => by subst e; exact (h.rl.dis _ hi).1 hD), h.rl.ge, h.rl.dis,
    h.rl.be.trans (h2.below hs (fun i e => by subst e; exact h.rl.ge _ (.inl hD))), h.rl.ok, h.rl.live, h.rl.fn, h.rl.l8, h.my.step h2 (fun i _ e => by subst e; exact .inl hD) (fun i hi => .inl hi)⟩
/-- how a flush and a crash behind it end -/
def Ends (l : List (List UInt8)) (fr n start : Nat) (all d : List UInt8) (g : Int) (l' : List (List UInt8)) (W' : List (Nat × List UInt8)) : Prop :=
  l'.length = l.length ∧ ((g = 0 ∧ ∀ ks, RInv (applyK l' W' ks W'.length) fr n start (all ++ d)) ∨
    (g = 50 ∧ d ≠ [] ∧ ∀ ks, RInv (applyK l' W' ks W'.length) fr n start all ∨ RInv (applyK l' W' ks W'.length) fr n start (all ++ d)))
theorem fw1_length (x : List UInt8) (fr n first last : Nat) : (fw1 x fr n first last).length = last - first + 1 := by
  unfold fw1
  rw [List.length_append, fw_length]
  rfl
theorem rf_flush (h : RF w wr R D (laid fr n start all d) l v all F G B f) (hi : RInv l fr n start all) (hc : (all ++ d).length ≤ (start / 118 + n - 1) * 118) (hz : (all ++ d).length < 100000000000000) :
    Calls Try.prog 35 #[.pointer (some ⟨R, 0, none⟩)] wr fun e w' => ∃ g l' W' F' G', e = .returned (.int .i64 g) ∧ RC w w' D l' W' v all F' G' ∧ Ends l fr n start all d g l' W' := by
  have hst := hi.st
  have htl : (laid fr n start all d).tail = (all ++ d).length := laid_tail hst
  have hfn : fr + n ≤ l.length := h.fn
  have hl8 := h.l8
  by_cases hd : d = []
  · subst hd
    have e : (laid fr n start all []).fin = (laid fr n start all []).tail := by
      rw [htl, List.append_nil]; rfl
    refine (Flush_nop R D B _ wr h.mem h.ok h.live e).mono ?_
    rintro e w' ⟨rfl, m, rfl⟩
    have hb := below_drewN (Below.refl wr.heap.size wr) m
    have h2 := h.below hb
    refine ⟨0, l, [], F, G, rfl, ⟨⟨_, _, h2.dv⟩, by simp, fun i hi => h2.ge i (hi.elim .inl fun h => .inr (.inl h)), h2.be, ⟨h2.my.own, fun g hg hs => h2.my.far g hg (hs.elim .inl fun h => .inr (.inl h))⟩⟩, rfl, .inl ⟨rfl, fun ks => ?_⟩⟩
    rw [List.append_nil]
    exact hi
  · have h0 : 0 < d.length := List.length_pos_iff.2 hd
    have e : (laid fr n start all d).fin < (laid fr n start all d).tail := by
      rw [htl, List.length_append]
      show all.length < _
      omega
    obtain ⟨hb1, hb2, hb3⟩ := flush_bounds hi hd hc
    have hs := h.be.size
    refine (Flush_any R D F G B _ l f wr h.mem h.dv h.dis h.ok h.live h.fn h.l8 (all ++ d) (laid_bytes hst) htl e).mono ?_
    rintro e w' ⟨F', G', f', l', W', dd, q', hS, hp⟩
    have hp' : (e = .returned (.int .i64 0) ∧ dd = false ∧ q' = { (laid fr n start all d) with fin := (laid fr n start all d).tail } ∧ l' = applyW (applyW l (fw1 (all ++ d) fr n (all.length / 118) (((all ++ d).length - 1) / 118))) (fw2 (all ++ d) fr n (all.length / 118)) ∧ W' = []) ∨
     (e = .returned (.int .i64 50) ∧ f ≠ -1 ∧ q' = { (laid fr n start all d) with dead := true } ∧ ((l' = l ∧ ∃ j, W' = (fw1 (all ++ d) fr n (all.length / 118) (((all ++ d).length - 1) / 118)).take j) ∨ (l' = applyW l (fw1 (all ++ d) fr n (all.length / 118) (((all ++ d).length - 1) / 118)) ∧ (W' = [] ∨ W' = fw2 (all ++ d) fr n (all.length / 118))))) := hp
    have hge' : ∀ i, F' i ∨ G' i → w.heap.size ≤ i := fun i hi => by
      rcases hi with hi | hi
      · rcases hS.fs i hi with h1 | h1
        · exact h.ge i (.inl h1)
        · omega
      · rcases hS.gs i hi with h1 | h1
        · exact h.ge i (.inr (.inl h1))
        · omega
    have hbe' : Below w.heap.size w w' := h.be.trans (hS.ch.below hs (fun i hi => hi.elim (fun h1 => h.ge i (.inl h1)) (fun h1 => h.ge i (.inr (.inr h1)))))
    have hmy' : Mine w w' (fun i => F' i ∨ G' i) v all := h.my.step hS.ch (fun i _ e => e.elim .inl fun h => .inr (.inr h)) (fun i hi => by
      rcases hi with hi | hi
      · rcases hS.fs i hi with h5 | h5
        · exact .inl (.inl h5)
        · exact .inr h5
      · rcases hS.gs i hi with h5 | h5
        · exact .inl (.inr (.inl h5))
        · exact .inr h5)
    have hcl := hi.cap
    have hll : all.length ≤ (all ++ d).length := by rw [List.length_append]; omega
    rcases hp' with ⟨rfl, _, _, rfl, rfl⟩ | ⟨rfl, _, _, ⟨rfl, j, rfl⟩ | ⟨rfl, rfl | rfl⟩⟩
    · exact ⟨0, _, [], F', G', rfl, ⟨⟨_, _, hS.dv⟩, by simp, hge', hbe', hmy'⟩, by rw [applyW_length, applyW_length], .inl ⟨rfl, fun ks => hi.flushed hd hc hfn hz⟩⟩
    · refine ⟨50, _, _, F', G', rfl, ⟨⟨_, _, hS.dv⟩, ?_, hge', hbe', hmy'⟩, rfl, .inr ⟨rfl, hd, fun ks => .inl (hi.crash1 hd hc ks j _)⟩⟩
      rw [List.length_take, fw1_length]
      have : ((all ++ d).length - 1) / 118 - all.length / 118 ≤ 100000 := by omega
      omega
    · exact ⟨50, _, [], F', G', rfl, ⟨⟨_, _, hS.dv⟩, by simp, hge', hbe', hmy'⟩, by rw [applyW_length], .inr ⟨rfl, hd, fun ks => .inl (hi.sync1 hd hc hfn)⟩⟩
    · exact ⟨50, _, _, F', G', rfl, ⟨⟨_, _, hS.dv⟩, by simp [fw2], hge', hbe', hmy'⟩, by rw [applyW_length], .inr ⟨rfl, hd, fun ks => hi.crash2 hd hc hfn hz ks⟩⟩
theorem rc_crash (h : RC w wr D l W v all F G) (KA : Option Addr) (kc : Nat) (ks : List Bool) (hr : Rd w 1 KA ks.length (bls ks)) (hks : ks.length ≤ 9223372036854775807) :
    Calls Try.prog 15 #[.pointer (some ⟨D, 0, none⟩), .slice KA ks.length kc] wr fun e w' => e = .returned (.tuple #[]) ∧ RA w w' D (applyK l W ks W.length) v all F G := by
  obtain ⟨dd, f, m, hd, rfl, rfl, hdd, hf⟩ := h.dv
  have hs := h.be.size
  refine (crash_any D F G m wr hd h.few KA kc ks (hr.below h.be) (fun h0 ad e hF => by
    obtain ⟨ad', e', hlt, _⟩ := hr.2 h0
    rw [e] at e'
    injection e' with e'
    subst e'
    have := h.ge _ (.inl hF)
    omega) hks).mono ?_
  rintro e w' ⟨rfl, h1, h2⟩
  exact ⟨rfl, ⟨_, h1, rfl, rfl, rfl, rfl⟩, h.ge, h.be.trans (h2.below hs (fun i hi => h.ge i (.inl hi))), h.my.step h2 (fun i _ e => .inl e) (fun i hi => .inl hi)⟩
end

/-- RingLasts between two rounds -/
structure LaS (w wr : World) (D k start : Nat) (l : List (List UInt8)) (v : Value) (all : List UInt8) (F G : Nat → Prop) : Prop where
  ra : RA w wr D l v all F G
  inv : RInv l 3 20 start all
  len : l.length = 40
  small : all.length ≤ 3000 * k
theorem LaS.below {w wr w2 : World} {D k start : Nat} {l : List (List UInt8)} {v : Value} {all : List UInt8} {F G : Nat → Prop} (h : LaS w wr D k start l v all F G) (hb : Below wr.heap.size wr w2) : LaS w w2 D k start l v all F G := ⟨h.ra.below hb, h.inv, h.len, h.small⟩
theorem LaS.trim {w wr : World} {D k start : Nat} {l : List (List UInt8)} {v : Value} {all : List UInt8} {F G : Nat → Prop} (h : LaS w wr D k start l v all F G) : LaS w wr D k all.length l v all F G := ⟨h.ra, h.inv.later h.inv.st (Nat.le_refl _), h.len, h.small⟩
end Go.Proofs.Ytjmcjbmnggecgaa
