/- ring.Flush. Conditions: sizes. -/
import Derived.Test.YtjmcjbmnggecgaaRgF
namespace Go.Proofs.Ytjmcjbmnggecgaa
open Go.RowKit
set_option maxRecDepth 100000
set_option linter.unusedVariables false
set_option linter.unusedSimpArgs false

/-- a ring and its device behind a call -/
structure FqS (w wr : World) (R D : Nat) (F G F' G' B : Nat → Prop) (q : MRing) (f f' : Int) (l : List (List UInt8)) (W : List (Nat × List UInt8)) (dd : Bool) : Prop where
  dv : Dv wr D F' G' l W dd f'
  fs : ∀ i, F' i → F i ∨ w.heap.size ≤ i
  gs : ∀ i, G' i → G i ∨ w.heap.size ≤ i
  ch : Chg (fun i => F i ∨ B i) w wr
  mem : RgMem wr R D B q
  dis : ∀ i, B i → ¬ F' i ∧ ¬ G' i
  ff : f = -1 → f' = -1
theorem FlS.set_ {w wr : World} {R D : Nat} {F G F' G' B : Nat → Prop} {q q' : MRing} {f f' : Int} {l : List (List UInt8)} {W : List (Nat × List UInt8)} {dd : Bool} (h : FlS w wr R D F G F' G' B q f f' l W dd) (n : Nat) (i : Nat) (v : Value) (hq : q'.bytes = q.bytes) (hc : ∀ bv, (qcells D bv q).setIfInBounds i v = qcells D bv q') :
    FqS w ((wr.drewN n).setCell ⟨R, i, none⟩ v) R D F G F' G' B q' f f' l W dd := by
  have hch := chg_set (w := wr.drewN n) R i v
  have hd := h.drewN n
  obtain ⟨bv, h1, h2, h3⟩ := hd.mem.mem
  refine ⟨hd.dv.frame hch (fun j e => by subst e; exact hd.dis _ hd.mem.own), h.fs, h.gs, (hd.ch.mono (fun j _ hj => .inl hj)).trans' hch (fun j _ e => by subst e; exact .inr hd.mem.own), hd.mem.set_ h1 h2 h3 i v hq (hc bv), h.dis, h.ff⟩
def FlushRes (R D : Nat) (F G B : Nat → Prop) (q : MRing) (f : Int) (l : List (List UInt8)) (W1 W2 : List (Nat × List UInt8)) (w : World) (e : Ending) (w' : World) : Prop :=
  ∃ F' G' f' l' W' dd q', FqS w w' R D F G F' G' B q' f f' l' W' dd ∧
    ((e = .returned (.int .i64 0) ∧ dd = false ∧ q' = { q with fin := q.tail } ∧ l' = applyW (applyW l W1) W2 ∧ W' = []) ∨
     (e = .returned (.int .i64 50) ∧ f ≠ -1 ∧ q' = { q with dead := true } ∧ ((l' = l ∧ ∃ j, W' = W1.take j) ∨ (l' = applyW l W1 ∧ (W' = [] ∨ W' = W2)))))
set_option maxHeartbeats 1600000 in
theorem Flush_nop (R D : Nat) (B : Nat → Prop) (q : MRing) (w : World) (hm : RgMem w R D B q) (hq : QOk q) (hdd : q.dead = false) (hfin : q.fin = q.tail) :
    Calls Try.prog 35 #[.pointer (some ⟨R, 0, none⟩)] w fun e w' => e = .returned (.int .i64 0) ∧ ∃ m, w' = w.drewN m := by
  have htl := hq.tl
  have HT := hid (fun m => tail_any R D B q (w.drewN m) (hm.drewN m) (by omega))
  obtain ⟨Aq, cq, Hq, c0, c1, c2, c3, c4, c5, c6, c7⟩ := hm.cells
  rw [hdd] at c7
  rw [hfin] at c6
  clear hm hq hdd htl hfin
  go_enter Try.func35, Try.ntmps35
  go_wp2_with fail
  go_quiet ((go_at_call 33; exact Calls.quiet_of (HT.out _)))
  go_wp2
  go_ret
  exact ⟨rfl, _, rfl⟩
set_option maxHeartbeats 3200000 in
theorem Flush_any (R D : Nat) (F G B : Nat → Prop) (q : MRing) (l : List (List UInt8)) (f : Int) (w : World) (hm : RgMem w R D B q) (hd : Dv w D F G l [] false f) (hdis : ∀ i, B i → ¬ F i ∧ ¬ G i) (hq : QOk q) (hdd : q.dead = false) (hfn : q.fr + q.n ≤ l.length) (hl : l.length ≤ 8192)
    (all : List UInt8) (hall : q.bytes = all.drop q.base) (hta : q.tail = all.length) (hfin : q.fin < q.tail) :
    Calls Try.prog 35 #[.pointer (some ⟨R, 0, none⟩)] w fun e w' => FlushRes R D F G B q f l (fw1 all q.fr q.n (q.fin / 118) ((all.length - 1) / 118)) (fw2 all q.fr q.n (q.fin / 118)) w e w' := by
  have htl := hq.tl
  have HT := hid (fun m => tail_any R D B q (w.drewN m) (hm.drewN m) (by omega))
  have hfl := hid (fun m => flush_any R D F G B q l f (w.drewN m) (hm.drewN m) (hd.below (below_drewN (Below.refl _ _) _)) hdis hq hfn hl all hall hta hfin)
  have hT3 := hid (fun (w' : World) (h : RgMem w' R D B q) => tail_any R D B q w' h (by omega))
  obtain ⟨Aq, cq, Hq, c0, c1, c2, c3, c4, c5, c6, c7⟩ := hm.cells
  rw [hdd] at c7
  obtain ⟨T, hT⟩ : ∃ T, T = q.tail := ⟨_, rfl⟩
  rw [← hT] at HT hfin hT3
  have hne : ((T : Int) == (q.fin : Int)) = false := beq_eq_false_iff_ne.mpr (by omega)
  have hne1 : ¬ (T : Int) = (q.fin : Int) := by omega
  have hne2 : ¬ T = q.fin := by omega
  have HTq := hid hT
  obtain ⟨W1, hW1⟩ : ∃ W1, W1 = fw1 all q.fr q.n (q.fin / 118) ((all.length - 1) / 118) := ⟨_, rfl⟩
  obtain ⟨W2, hW2⟩ : ∃ W2, W2 = fw2 all q.fr q.n (q.fin / 118) := ⟨_, rfl⟩
  rw [← hW1, ← hW2] at hfl
  rw [← hW1, ← hW2]
  have hlt := hm.lt
  clear hm hd hdis hq hdd hall hta htl hT hW1 hW2 hfin
  go_enter Try.func35, Try.ntmps35
  go_wp2_with fail
  go_quiet ((go_at_call 33; exact Calls.quiet_of (HT.out _)))
  go_wp2_with fail
  refine (hfl.out nq).mono ?_
  rintro e w1 hpost
  unfold FlushPost at hpost
  obtain ⟨F', G', f', l', W', dd, hS, hpost⟩ := hpost
  have hS' : FlS w w1 R D F G F' G' B q f f' l' W' dd := ⟨hS.dv, hS.fs, hS.gs, ⟨hS.ch.os, hS.ch.tape, hS.ch.output, hS.ch.size, hS.ch.block⟩, hS.mem, hS.dis, hS.ff⟩
  have HS := hid hS'
  rcases hpost with ⟨rfl, hA, hB, hC⟩ | ⟨rfl, hA, hB⟩
  · as_aux_lemma =>
    have HP := hid (And.intro hA (And.intro hB hC))
    obtain ⟨A7, c7', H7, d0, d1, d2, d3, d4, d5, d6, d7⟩ := hS'.mem.cells
    have hf6 := fun m => (show (w1.drewN m).frozen? ⟨R, 6, none⟩ = false from H7.out.1.frozen 6)
    have ht3 := hid (hT3.out w1 hS'.mem)
    clear hS hS' hA hB hC d0 d1 d2 d3 d4 d5 d7
    go_wp2_with fail
    refine ht3.out.mono ?_
    rintro e w2 ⟨rfl, m, rfl⟩
    have d6d : (w1.drewN m).cell? ⟨R, 6, none⟩ = some (.int .i64 q.fin) := d6
    have f6d := hf6 m
    clear hf6
    go_wp2
    go_ret
    have hset := HS.out.set_ (q' := { q with fin := T }) m 6 (.int .i64 T) rfl (fun bv => rfl)
    exact ⟨F', G', f', l', W', dd, _, hset, .inl ⟨rfl, HP.out.1, by rw [HTq.out], HP.out.2.1, HP.out.2.2⟩⟩
  · as_aux_lemma =>
    have HP := hid (And.intro hA hB)
    obtain ⟨A7, c7', H7, d0, d1, d2, d3, d4, d5, d6, d7⟩ := hS'.mem.cells
    have f7 := H7.out.1.frozen 7
    clear hS hS' hA hB d0 d1 d2 d3 d4 d5 d6
    go_wp2
    go_ret
    have hset := HS.out.set_ (q' := { q with dead := true }) 0 7 (.bool true) rfl (fun bv => rfl)
    exact ⟨F', G', f', l', W', dd, _, hset, .inr ⟨rfl, HP.out.1, rfl, HP.out.2⟩⟩
end Go.Proofs.Ytjmcjbmnggecgaa
