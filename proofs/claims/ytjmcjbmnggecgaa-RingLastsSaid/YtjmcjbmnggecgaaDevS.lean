/- Sync of the device. -/
import Derived.Test.YtjmcjbmnggecgaaDevW
namespace Go.Proofs.Ytjmcjbmnggecgaa
open Go.RowKit
set_option maxRecDepth 100000

def applyW (l : List (List UInt8)) (W : List (Nat × List UInt8)) : List (List UInt8) := W.foldl (fun l e => l.set e.1 e.2) l

theorem take_snoc' {α : Type} (l : List α) (k : Nat) (x : α) (h : l[k]? = some x) : l.take (k + 1) = l.take k ++ [x] := by
  obtain ⟨hk, rfl⟩ := List.getElem?_eq_some_iff.1 h
  rw [List.take_succ_eq_append_getElem hk]
theorem applyW_snoc (l : List (List UInt8)) (W : List (Nat × List UInt8)) (e : Nat × List UInt8) : applyW l (W ++ [e]) = (applyW l W).set e.1 e.2 := by simp [applyW]
theorem applyW_length (W : List (Nat × List UInt8)) : ∀ l : List (List UInt8), (applyW l W).length = l.length := by
  induction W with
  | nil => intro l; rfl
  | cons e W ih => intro l; simp [applyW] at *; rw [ih]; simp

structure SyncRel (w1 wr : World) (D : Nat) (F G : Nat → Prop) (l' : List (List UInt8)) (n : Nat) (W : List (Nat × List UInt8)) (L lc : Nat) (CA : Option Addr) (cc : Nat) (ws : List Value) : Prop where
  ne : L ≠ D
  len : l'.length = n
  mem : ∃ ls, DevMem wr F G l' W (.slice (some ⟨L, 0, none⟩) n lc) (.slice CA W.length cc) ls ws
  chg : Chg (fun x => x = L) w1 wr

/-- what a round reads: of the write k that waits, and where its sector's slice stands -/
theorem SyncRel.facts {w1 wr : World} {D : Nat} {F G : Nat → Prop} {l' : List (List UInt8)} {n : Nat} {W : List (Nat × List UInt8)} {L lc C cc : Nat} {ws : List Value} {k : Nat} (h : SyncRel w1 wr D F G l' n W L lc (some ⟨C, 0, none⟩) cc ws)
    {bd : Array Value} (hb : Blk w1 D 70 bd) (hk : k < W.length) (hwi : ∀ (i : Nat) e, W[i]? = some e → e.1 < n) :
    ∃ e1 eb g c, W[k]? = some (e1, eb) ∧ e1 < n ∧ Blk wr D 70 bd ∧ wr.cell? ⟨C, k * 2, none⟩ = some (.int .i64 (e1 : Int)) ∧ wr.cell? ⟨C, k * 2 + 1, none⟩ = some (.slice (some ⟨g, 0, none⟩) 128 c) ∧
      SecN wr G (.slice (some ⟨g, 0, none⟩) 128 c) eb ∧ (∃ v, wr.cell? ⟨L, e1, none⟩ = some v) ∧ wr.frozen? ⟨L, e1, none⟩ = false ∧ L < wr.heap.size := by
  obtain ⟨ls, hm⟩ := h.mem
  have he : W[k]? = some W[k] := List.getElem?_eq_getElem hk
  obtain ⟨h1, v, h2, hs⟩ := hm.sc k _ he
  have hi := hwi k _ he
  have hs' := hs
  obtain ⟨_, g, c, cs, rfl, _⟩ := hs
  have hol := hm.ol
  rw [h.len] at hol
  have hls := hol.1
  obtain ⟨_, curL, hcurL, _⟩ := own_blk hol
  refine ⟨W[k].1, W[k].2, g, c, he, hi, hb.chg h.chg (fun e => h.ne e.symm), ?_, ?_, hs', ⟨ls[W[k].1]'(by omega), ?_⟩, hcurL.frozen _, hcurL.lt⟩
  · rw [hm.oc.cellAt _ (by omega)]; exact h1
  · rw [hm.oc.cellAt _ (by omega)]; exact h2
  · rw [hol.cellAt _ (by omega)]; exact List.getElem?_eq_getElem _

theorem SyncRel.step {w1 wr : World} {D : Nat} {F G : Nat → Prop} {l' : List (List UInt8)} {n : Nat} {W : List (Nat × List UInt8)} {L lc : Nat} {CA : Option Addr} {cc : Nat} {ws : List Value} {e1 : Nat} {eb : List UInt8} {v : Value} (h : SyncRel w1 wr D F G l' n W L lc CA cc ws)
    (hi : e1 < n) (hs : SecN wr G v eb) (o : Obj) : SyncRel w1 (((wr.setCell ⟨L, e1, none⟩ v).alloc o).drew) D F G (l'.set e1 eb) n W L lc CA cc ws := by
  obtain ⟨ls, hm⟩ := h.mem
  have hol := hm.ol
  rw [h.len] at hol
  have hk : Chg (fun x => x = L) wr (((wr.setCell ⟨L, e1, none⟩ v).alloc o).drew) := (((Chg.refl (fun x => x = L) wr).setCell (p := ⟨L, e1, none⟩) (fun _ => rfl) v).alloc o).drew
  obtain ⟨csL, hcsL⟩ := own_ty hol rfl
  have h5 : ∀ i, G i → i = L → ∃ t cs, t ≠ 5 ∧ Blk wr i t cs := by
    rintro i _ rfl
    exact ⟨30, csL, by decide, hcsL⟩
  refine ⟨h.ne, by simp [h.len], ⟨ls.set e1 v, ?_, hm.fl, own_chg hm.oc hk ?_, hm.fc, ?_, ?_⟩, h.chg.trans hk⟩
  · have := ((hol.stored e1 v).1.alloc o).drew
    simpa [h.len] using this
  · rintro g hg rfl
    obtain ⟨cs', hcs'⟩ := own_ty hm.oc hg
    exact hcs'.ne_ hcsL (by decide) rfl
  · intro i bs hb
    rw [List.getElem?_set] at hb
    split at hb
    · rename_i hie
      subst hie
      split at hb
      · injection hb with hb
        subst hb
        exact ⟨v, by rw [List.getElem?_set_self (by have := hol.1; omega)], .inr (hs.chg hk h5)⟩
      · cases hb
    · rename_i hie
      obtain ⟨u, hu, hsu⟩ := hm.sl i bs hb
      exact ⟨u, by rw [List.getElem?_set_ne hie]; exact hu, hsu.chg hk h5⟩
  · intro i e he
    obtain ⟨h1, u, hu, hsu⟩ := hm.sc i e he
    exact ⟨h1, u, hu, hsu.chg hk h5⟩

/-- the writes that wait go: nil in their list's place -/
theorem SyncRel.close {w w1 wr : World} {D : Nat} {F G : Nat → Prop} {m1 : MDev} {l' : List (List UInt8)} {L lc : Nat} {CA : Option Addr} {cc : Nat} {ws : List Value} (h : SyncRel w1 wr D F G l' m1.l.length m1.W L lc CA cc ws)
    (H1 : DevAt w1 D F G m1) (H2 : Chg F w w1) {cv : Value} (Hb : Blk w1 D 70 #[.slice (some ⟨L, 0, none⟩) m1.l.length lc, cv, .int .i64 m1.fuse, .bool m1.dead, .int .i64 m1.calls]) :
    DevAt (wr.setCell ⟨D, 1, none⟩ (.slice none 0 0)) D F G { m1 with l := l', W := [] } ∧ Chg F w (wr.setCell ⟨D, 1, none⟩ (.slice none 0 0)) := by
  obtain ⟨ls, hm⟩ := h.mem
  have hFL : F L := hm.fl L rfl
  have hbr := Hb.chg h.chg (fun e => h.ne e.symm)
  have hk : Chg (fun x => x = D) wr (wr.setCell ⟨D, 1, none⟩ (.slice none 0 0)) := chg_set D 1 _
  have h5 : ∀ i, G i → i = D → ∃ t cs, t ≠ 5 ∧ Blk wr i t cs := by
    rintro i _ rfl
    exact ⟨70, _, by decide, hbr⟩
  have hc1 : Chg F w1 (wr.setCell ⟨D, 1, none⟩ (.slice none 0 0)) :=
    (h.chg.mono (S' := F) (by rintro i _ rfl; exact hFL)).trans (hk.mono (by rintro i _ rfl; exact H1.own))
  refine ⟨⟨H1.own, fun i hi => Nat.lt_of_lt_of_le (H1.lt i hi) hc1.size, fun i hi => Nat.lt_of_lt_of_le (H1.lg i hi) hc1.size, by rw [h.len]; exact H1.n1, by rw [h.len]; exact H1.n2, H1.f1, H1.f2, fun i e he => by simp at he, .slice (some ⟨L, 0, none⟩) m1.l.length lc, .slice none 0 0, ls, [], hbr.set_ 1 _, ?_⟩, H2.trans hc1⟩
  refine ⟨own_chg hm.ol hk ?_, hm.fl, World.ownsRow_nil _ _ _ _, fun g hg => by simp [Value.ownBlock] at hg, fun i bs hb => ?_, fun i e he => by simp at he⟩
  · intro g hg hgd
    have : L = g := by simpa [Value.ownBlock] using hg
    exact h.ne (this.trans hgd)
  · obtain ⟨u, hu, hsu⟩ := hm.sl i bs hb
    exact ⟨u, hu, hsu.chg hk h5⟩

set_option maxHeartbeats 1600000 in
theorem sync_ok (D : Nat) (F G : Nat → Prop) (m : MDev) (w : World) (h : DevAt w D F G m) (hd : m.dead = false) (hf : m.fuse ≠ 0) (hW : m.W.length ≤ 1000000) :
    Calls Try.prog 14 #[.pointer (some ⟨D, 0, none⟩)] w fun e w' => e = .returned (.int .i64 0) ∧ DevAt w' D F G { m.lit with l := applyW m.l m.W, W := [] } ∧ Chg F w w' := by
  obtain ⟨lv, cv, ls, ws, hb, hm⟩ := h.mem
  obtain ⟨c0, _, _, c3, _⟩ := blk5 hb
  rw [hd] at c3
  have Hf := hid hf
  clear hb hd hf hm
  go_enter Try.func14, Try.ntmps14
  go_wp2_with fail
  refine (burn_yes D F G m w h Hf.out).mono ?_
  rintro e w1 ⟨rfl, hq1, hq2⟩
  obtain ⟨lv1, cv1, ls1, ws1, hb1, hm1⟩ := hq1.mem
  obtain ⟨LA, lc, rfl, _⟩ := own_form hm1.ol
  obtain ⟨CA, cc, rfl, _⟩ := own_form hm1.oc
  have nl := hq1.n1
  obtain ⟨L, rfl⟩ : ∃ L, LA = some ⟨L, 0, none⟩ := by
    obtain ⟨g, cap, hv, _⟩ := hm1.ol.form (by omega)
    injection hv with hv _ _
    exact ⟨g, hv⟩
  obtain ⟨d0, d1, _, _, _⟩ := blk5 hb1
  have H1 := hid hq1
  have H2 := hid hq2
  have Hm := hid hm1
  have Hb := hid hb1
  have lD := hb1.lt
  have fD1 := hb1.frozen 1
  have hWl : m.lit.W.length ≤ 1000000 := hW
  have nD : Hid (L ≠ D) := hid (by
    obtain ⟨cs, hcs⟩ := own_ty hm1.ol rfl
    exact hcs.ne_ hb1 (by decide))
  have hnl := hq1.n2
  clear hq1 hq2 hm1 hb1 c0 c3
  go_wp2_with fail
  go_loopw [20] (fun i wr => ∃ k : Nat, k ≤ m.lit.W.length ∧ i = .int .i64 k ∧ SyncRel w1 wr D F G (applyW m.lit.l (m.lit.W.take k)) m.lit.l.length m.lit.W L lc CA cc ws1) (fun i _ => m.lit.W.length - (intOf i).toNat)
  case atStart => exact ⟨0, Nat.zero_le _, rfl, nD.out, rfl, ⟨ls1, Hm.out⟩, Chg.refl _ _⟩
  case round =>
    obtain ⟨k, hk, rfl, hR⟩ := hrel
    by_cases hlt : k < m.lit.W.length
    · obtain ⟨C, rfl⟩ : ∃ C, CA = some ⟨C, 0, none⟩ := by
        obtain ⟨g, cap, hv, _⟩ := Hm.out.oc.form (by omega)
        injection hv with hv _ _
        exact ⟨g, hv⟩
      obtain ⟨e1, eb, g, c, he, hi, hbr, r0, r1, hs, ⟨vo, r2⟩, r3, r4⟩ := hR.facts Hb.out hlt H1.out.wi
      have He := hid he
      have Hs := hid hs
      have Hbr := hid hbr
      have HR := hid hR
      obtain ⟨rd0, _, _, _, _⟩ := blk5 hbr
      have hi1 : (0 : Int) ≤ (e1 : Int) := Int.natCast_nonneg _
      have hi2 : (e1 : Int) < (m.lit.l.length : Int) := by omega
      have lDr := hbr.lt
      clear he hs hbr hR d0 d1
      go_wp2
      go_region
      go_wp2
      go_roundw
      case rel =>
        refine ⟨k + 1, by omega, by go_num, ?_⟩
        rw [take_snoc' _ _ _ He.out, applyW_snoc]
        exact HR.out.step hi Hs.out _
      case measure => simp [intOf]; omega
    · have hk' : k = m.lit.W.length := by omega
      have Hk := hid hk'
      have hbr := Hb.out.chg hR.chg (fun e => hR.ne e.symm)
      obtain ⟨_, rd1, _, _, _⟩ := blk5 hbr
      have rf1 := hbr.frozen 1
      have HR := hid hR
      clear hk' hbr hR d0 d1
      go_wp2
      go_ret
      have hR := HR.out
      rw [Hk.out, List.take_length] at hR
      have := hR.close H1.out (H2.out.mono (by rintro i _ rfl; exact H1.out.own)) Hb.out
      exact ⟨rfl, this⟩
end Go.Proofs.Ytjmcjbmnggecgaa
