/- What stores make of a ring in memory. No conditions. -/
import Derived.Test.YtjmcjbmnggecgaaRgS
namespace Go.Proofs.Ytjmcjbmnggecgaa
open Go.RowKit
set_option maxRecDepth 100000
set_option linter.unusedVariables false
set_option linter.unusedSimpArgs false

theorem own_block {w : World} {base : Nat} {e : TypeId} {size n g : Nat} {v : Value} {xs : List Value} (h : w.ownsRow base e size v n xs) (hg : v.ownBlock = some g) : base ≤ g ∧ g < w.heap.size := by
  rcases h.2 with ⟨rfl, _⟩ | ⟨g', cap, cur, rfl, hb, hh, _⟩
  · simp [Value.ownBlock] at hg
  · have e : g' = g := by simpa [Value.ownBlock] using hg
    subst e
    exact ⟨hb, Blk.lt hh⟩
section
variable {w w5 : World} {R D : Nat} {B : Nat → Prop} {q q' : MRing}
/-- one cell of the struct is stored; the bytes are as they were -/
theorem RgMem.set_ {bv : Value} (h : RgMem w R D B q) (hb : Blk w R 80 (qcells D bv q)) (ho : w.ownsRow 0 5 1 bv q.bytes.length (u8s q.bytes)) (hB : ∀ g, bv.ownBlock = some g → B g) (i : Nat) (v : Value) (hq : q'.bytes = q.bytes) (hc : (qcells D bv q).setIfInBounds i v = qcells D bv q') :
    RgMem (w.setCell ⟨R, i, none⟩ v) R D B q' := by
  have hch := chg_set (w := w) R i v
  refine ⟨h.own, fun j hj => Nat.lt_of_lt_of_le (h.lt j hj) hch.size, bv, ?_, ?_, hB⟩
  · have := hb.set_ i v
    rw [hc] at this
    exact this
  · rw [hq]
    exact own_chg ho hch (fun g hg e => by
      subst e
      obtain ⟨cs, hk⟩ := own_ty ho hg
      exact hk.ne_ hb (by decide) rfl)
/-- bytes are laid behind -/
theorem RgMem.app {A : Option Addr} {c : Nat} {v' : Value} {xs : List UInt8} (h : RgMem w R D B q) (hb : Blk w R 80 (qcells D (.slice A q.bytes.length c) q)) (ho : w.ownsRow 0 5 1 (.slice A q.bytes.length c) q.bytes.length (u8s q.bytes)) (hB : ∀ g, (Value.slice A q.bytes.length c).ownBlock = some g → B g)
    (hg : w.grownBy w5 (Value.slice A q.bytes.length c).ownBlock) (hn : w5.ownsRow 0 5 1 v' (q.bytes.length + xs.length) (u8s q.bytes ++ u8s xs)) (hat : v'.ownBlock = (Value.slice A q.bytes.length c).ownBlock ∨ v'.ownBlock = some w.heap.size) :
    w5.cell? ⟨R, 4, none⟩ = some (.slice A q.bytes.length c) ∧ w5.frozen? ⟨R, 4, none⟩ = false ∧
      ∃ B', RgMem (w5.setCell ⟨R, 4, none⟩ v') R D B' { q with bytes := q.bytes ++ xs } ∧ (∀ i, B' i → B i ∨ w.heap.size ≤ i) ∧ Chg B w (w5.setCell ⟨R, 4, none⟩ v') := by
  have hne : some R ≠ (Value.slice A q.bytes.length c).ownBlock := fun e => by
    obtain ⟨cs, hk⟩ := own_ty ho e.symm
    exact hk.ne_ hb (by decide) rfl
  have hb5 := hb.grown hg hne
  have hn' : w5.ownsRow 0 5 1 v' (q.bytes ++ xs).length (u8s (q.bytes ++ xs)) := by
    rw [List.length_append, show u8s (q.bytes ++ xs) = u8s q.bytes ++ u8s xs by simp [u8s]]
    exact hn
  have hne2 : ∀ g, v'.ownBlock = some g → g ≠ R := fun g hg' e => by
    subst e
    obtain ⟨cs, hk⟩ := own_ty hn hg'
    exact hk.ne_ hb5 (by decide) rfl
  have hch := chg_set (w := w5) R 4 v'
  refine ⟨hb5.cell_ 4 rfl, hb5.frozen 4, fun i => B i ∨ v'.ownBlock = some i, ⟨.inl h.own, fun i hi => ?_, v', ?_, own_chg hn' hch (fun g hg' e => hne2 g hg' e), fun g hg' => .inr hg'⟩, fun i hi => ?_, ?_⟩
  · rcases hi with hi | hi
    · exact Nat.lt_of_lt_of_le (Nat.lt_of_lt_of_le (h.lt i hi) hg.size) hch.size
    · exact Nat.lt_of_lt_of_le (own_block hn hi).2 hch.size
  · have := hb5.set_ 4 v'
    exact this
  · rcases hi with hi | hi
    · exact .inl hi
    · rcases hat with h' | h'
      · exact .inl (hB i (by rw [← h', hi]))
      · rw [h'] at hi; injection hi with hi; exact .inr (by omega)
  · exact ((Chg.refl B w).grown hg (fun k hk _ => hB k hk)).trans' hch (fun i _ e => by subst e; exact h.own)
end
end Go.Proofs.Ytjmcjbmnggecgaa
