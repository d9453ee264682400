/- The device of package dev, as the walks see it: what its memory says (DevAt) of a plain model (MDev), and the contracts of its methods. Conditions: none but sizes. -/
import Derived.Test.YtjmcjbmnggecgaaBase
namespace Go.Proofs.Ytjmcjbmnggecgaa
open Go.RowKit
set_option maxRecDepth 100000

theorem info5 : (Try.prog.info? 5).map (fun i => (i.zero, i.size, i.bytes)) = some (some (.int .u8 0), 1, 1) := by kernel_rfl
theorem info30 : (Try.prog.info? 30).map (fun i => (i.zero, i.size, i.bytes)) = some (some (.slice none 0 0), 1, 24) := by kernel_rfl
theorem info73 : (Try.prog.info? 73).map (fun i => (i.zero, i.size, i.bytes)) = some (some (.agg #[.int .i64 0, .slice none 0 0]), 2, 32) := by kernel_rfl

theorem u8s_one (bs : List UInt8) : ∀ u ∈ u8s bs, u.oneCell' = true := by
  intro u hu
  obtain ⟨_, _, rfl⟩ := List.mem_map.1 hu
  rfl

set_option maxHeartbeats 400000 in
/-- slices.Clone of bytes -/
theorem clone_u8 (A : Option Addr) (n c : Nat) (xs : List Value) (w : World) (hn : 0 < n) (hb : n ≤ 140737488355328) (hr : Rd w 1 A n xs) (h1 : ∀ u ∈ xs, u.oneCell' = true) :
    Calls Try.prog 40 #[.slice A n c] w fun e w' => ∃ g cap, e = .returned (.slice (some ⟨g, 0, none⟩) n cap) ∧ w'.ownsRow w.heap.size 5 1 (.slice (some ⟨g, 0, none⟩) n cap) n xs ∧ Below w.heap.size w w' := by
  obtain ⟨i0, hi, hz0, hz1, hz2⟩ := info_parts info5
  obtain ⟨ad, hA, hlt, hc⟩ := hr.2 hn
  subst hA
  have hl := hid hr.1
  have hr' := hid hr
  clear hr hc
  have heq := fun W : World => Lib.run_eql_slice_nil (P := Try.prog) W 30 5 (some ad) n c 0 0 Try.underlying30
  go_enter Try.func40, Try.ntmps40
  go_wp2_with (at_builtin; refine wpList_append_any _ rfl (.tmp 5) (.tmp 6) 30 rfl w.heap.size 5 i0 _ 1 1 Try.underlying30 hi hz0 hz1 hz2 rfl (by omega) _ 0 [] rfl (World.ownsRow_lit _ #[] 0 (Nat.le_refl _) (by omega) rfl) (some ad) n c xs rfl ?c1 h1 (by unfold maxLen; omega) (by omega) (by simp) ?_)
  case c1 => exact hr'.out.keep (by simp) fun _ _ h => Below.heap_alloc _ _ _ h
  intro v' w' hown hg hat
  have hf : ∃ g cap, v' = .slice (some ⟨g, 0, none⟩) n cap := by
    obtain ⟨g, cap, hv, _⟩ := hown.form (by omega)
    exact ⟨g, cap, by simpa using hv⟩
  obtain ⟨g, cap, hv⟩ := hf
  subst hv
  go_wp2
  go_ret
  refine ⟨g, cap, rfl, by simpa using hown, ?_⟩
  refine ((Below.refl _ _).alloc (Nat.le_refl _) _).grown hg (by simp) ?_
  intro k hk; simp [Value.ownBlock] at hk; omega

/-! ### the model -/
structure MDev where
  l : List (List UInt8)
  W : List (Nat × List UInt8)
  fuse : Int
  dead : Bool
  calls : Int

def zeros : List UInt8 := List.replicate 128 0

def MDev.new (n : Nat) : MDev := ⟨List.replicate n zeros, [], -1, false, 0⟩
/-- the fuse lets a call through -/
def MDev.lit (m : MDev) : MDev := { m with fuse := if 0 < m.fuse then m.fuse - 1 else m.fuse, calls := wrap64 (m.calls + 1) }
def MDev.write (m : MDev) (i : Int) (b : List UInt8) : Int × MDev :=
  if m.dead then (50, m) else if i < 0 ∨ (m.l.length : Int) ≤ i ∨ b.length ≠ 128 then (1, m) else if m.fuse = 0 then (50, { m with dead := true }) else (0, { m.lit with W := m.W ++ [(i.toNat, b)] })

/-! ### what memory says of it -/
/-- a sector's bytes, never to be written again: in a block of G -/
def SecN (w : World) (G : Nat → Prop) (v : Value) (bs : List UInt8) : Prop :=
  bs.length = 128 ∧ ∃ g c cs, v = .slice (some ⟨g, 0, none⟩) 128 c ∧ G g ∧ Blk w g 5 cs ∧ cs.toList.take 128 = u8s bs
def SecV (w : World) (G : Nat → Prop) (v : Value) (bs : List UInt8) : Prop := (v = .slice none 0 0 ∧ bs = zeros) ∨ SecN w G v bs

/-- the lists of sectors and of writes that wait: their rows lie in F, the bytes in G -/
structure DevMem (w : World) (F G : Nat → Prop) (l : List (List UInt8)) (W : List (Nat × List UInt8)) (lv cv : Value) (ls ws : List Value) : Prop where
  ol : w.ownsRow 0 30 1 lv l.length ls
  fl : ∀ g, lv.ownBlock = some g → F g
  oc : w.ownsRow 0 73 2 cv W.length ws
  fc : ∀ g, cv.ownBlock = some g → F g
  sl : ∀ (i : Nat) bs, l[i]? = some bs → ∃ v, ls[i]? = some v ∧ SecV w G v bs
  sc : ∀ (i : Nat) e, W[i]? = some e → ws[i * 2]? = some (.int .i64 (e.1 : Int)) ∧ ∃ v, ws[i * 2 + 1]? = some v ∧ SecN w G v e.2

/-- F: the blocks that a call may write; G: those of the bytes, never written -/
structure DevAt (w : World) (D : Nat) (F G : Nat → Prop) (m : MDev) : Prop where
  own : F D
  lt : ∀ i, F i → i < w.heap.size
  lg : ∀ i, G i → i < w.heap.size
  n1 : 1 ≤ m.l.length
  n2 : m.l.length ≤ 8192
  f1 : -1 ≤ m.fuse
  f2 : m.fuse ≤ 9223372036854775807
  wi : ∀ (i : Nat) e, m.W[i]? = some e → e.1 < m.l.length
  mem : ∃ lv cv ls ws, Blk w D 70 #[lv, cv, .int .i64 m.fuse, .bool m.dead, .int .i64 m.calls] ∧ DevMem w F G m.l m.W lv cv ls ws

section
variable {w w' : World} {D : Nat} {F F' G G' S : Nat → Prop} {m : MDev} {v : Value} {bs : List UInt8}

theorem SecN.rd (h : SecN w G v bs) : ∃ g c, v = .slice (some ⟨g, 0, none⟩) 128 c ∧ G g ∧ Rd w 1 (some ⟨g, 0, none⟩) 128 (u8s bs) := by
  obtain ⟨h1, g, c, cs, rfl, hg, hb, hcs⟩ := h
  refine ⟨g, c, rfl, hg, by rw [length_u8s, h1], fun _ => ⟨_, rfl, hb.lt, fun j u hu => ?_⟩⟩
  rw [Addr.add_lit, Nat.zero_add, hb.cell]
  rw [← hcs] at hu
  have := (List.getElem?_eq_some_iff.1 hu).1
  rw [List.getElem?_take] at hu
  split at hu
  · simpa using hu
  · cases hu
theorem SecN.mono (h : SecN w G v bs) (hG : ∀ i, G i → G' i) : SecN w G' v bs := by
  obtain ⟨h1, g, c, cs, rfl, hg, hb, hcs⟩ := h
  exact ⟨h1, g, c, cs, rfl, hG _ hg, hb, hcs⟩
theorem SecN.chg (h : SecN w G v bs) (hc : Chg S w w') (hS : ∀ i, G i → S i → ∃ t cs, t ≠ 5 ∧ Blk w i t cs) : SecN w' G v bs := by
  obtain ⟨h1, g, c, cs, rfl, hg, hb, hcs⟩ := h
  refine ⟨h1, g, c, cs, rfl, hg, hb.chg hc fun hs => ?_, hcs⟩
  obtain ⟨t, cs', ht, hb'⟩ := hS g hg hs
  exact hb'.ne_ hb ht rfl
theorem SecV.mono (h : SecV w G v bs) (hG : ∀ i, G i → G' i) : SecV w G' v bs := h.imp id fun h => h.mono hG
theorem SecV.chg (h : SecV w G v bs) (hc : Chg S w w') (hS : ∀ i, G i → S i → ∃ t cs, t ≠ 5 ∧ Blk w i t cs) : SecV w' G v bs := h.imp id fun h => h.chg hc hS

variable {base size n : Nat} {e : TypeId} {xs : List Value}
theorem own_chg (h : w.ownsRow base e size v n xs) (hc : Chg S w w') (hS : ∀ g, v.ownBlock = some g → ¬ S g) : w'.ownsRow base e size v n xs := by
  refine ⟨h.1, ?_⟩
  rcases h.2 with h | ⟨g, cap, cur, rfl, hg, hh, r⟩
  · exact .inl h
  · exact .inr ⟨g, cap, cur, rfl, hg, (Blk.chg hh hc (hS g rfl) : _), r⟩
theorem own_ty {g : Nat} (h : w.ownsRow base e size v n xs) (hg : v.ownBlock = some g) : ∃ cs, Blk w g e cs := by
  rcases h.2 with ⟨rfl, _⟩ | ⟨g', cap, cur, rfl, _, hh, _⟩
  · simp [Value.ownBlock] at hg
  · have : g' = g := by simpa [Value.ownBlock] using hg
    subst this; exact ⟨_, hh⟩

variable {l : List (List UInt8)} {W : List (Nat × List UInt8)} {lv cv : Value} {ls ws : List Value}
/-- another block than the lists' own, and no bytes, has changed -/
theorem DevMem.chg (h : DevMem w F G l W lv cv ls ws) (hc : Chg S w w') (hS : ∀ i, F i ∨ G i → S i → ∃ t cs, t ≠ 5 ∧ t ≠ 30 ∧ t ≠ 73 ∧ Blk w i t cs) : DevMem w' F G l W lv cv ls ws := by
  have h5 : ∀ i, G i → S i → ∃ t cs, t ≠ 5 ∧ Blk w i t cs := fun i hf hs => by obtain ⟨t, cs, a, _, _, b⟩ := hS i (.inr hf) hs; exact ⟨t, cs, a, b⟩
  refine ⟨own_chg h.ol hc fun g hg hs => ?_, h.fl, own_chg h.oc hc fun g hg hs => ?_, h.fc, fun i bs hb => ?_, fun i e he => ?_⟩
  · obtain ⟨t, cs, _, ht, _, hb⟩ := hS g (.inl (h.fl g hg)) hs
    obtain ⟨cs', hb'⟩ := own_ty h.ol hg
    exact hb.ne_ hb' ht rfl
  · obtain ⟨t, cs, _, _, ht, hb⟩ := hS g (.inl (h.fc g hg)) hs
    obtain ⟨cs', hb'⟩ := own_ty h.oc hg
    exact hb.ne_ hb' ht rfl
  · obtain ⟨v, hv, hs⟩ := h.sl i bs hb; exact ⟨v, hv, hs.chg hc h5⟩
  · obtain ⟨h1, v, hv, hs⟩ := h.sc i e he; exact ⟨h1, v, hv, hs.chg hc h5⟩
theorem DevMem.mono (h : DevMem w F G l W lv cv ls ws) (hF : ∀ i, F i → F' i) (hG : ∀ i, G i → G' i) : DevMem w F' G' l W lv cv ls ws :=
  ⟨h.ol, fun g hg => hF _ (h.fl g hg), h.oc, fun g hg => hF _ (h.fc g hg), fun i bs hb => by obtain ⟨v, hv, hs⟩ := h.sl i bs hb; exact ⟨v, hv, hs.mono hG⟩,
    fun i e he => by obtain ⟨h1, v, hv, hs⟩ := h.sc i e he; exact ⟨h1, v, hv, hs.mono hG⟩⟩

/-- what the device does not own may change as it will -/
theorem DevAt.frame (h : DevAt w D F G m) (hc : Chg S w w') (hS : ∀ i, S i → ¬ F i ∧ ¬ G i) : DevAt w' D F G m := by
  obtain ⟨lv, cv, ls, ws, hb, hm⟩ := h.mem
  exact ⟨h.own, fun i hi => Nat.lt_of_lt_of_le (h.lt i hi) hc.size, fun i hi => Nat.lt_of_lt_of_le (h.lg i hi) hc.size, h.n1, h.n2, h.f1, h.f2, h.wi, lv, cv, ls, ws, hb.chg hc (fun hs => (hS _ hs).1 h.own),
    hm.chg hc fun i hf hs => (hf.elim (hS i hs).1 (hS i hs).2).elim⟩
theorem DevAt.below (h : DevAt w D F G m) (hb : Below w.heap.size w w') : DevAt w' D F G m := h.frame (S := fun _ => False) (Chg.of_below hb) (fun _ h => h.elim)
/-- new blocks alone, as far as the device's own go -/
theorem DevAt.from_ (h : DevAt w D F G m) {B : Nat} (hc : Chg (fun i => B ≤ i) w w') (hF : ∀ i, F i ∨ G i → i < B) : DevAt w' D F G m :=
  h.frame hc fun i hi => ⟨fun h => by have := hF i (.inl h); omega, fun h => by have := hF i (.inr h); omega⟩
end

end Go.Proofs.Ytjmcjbmnggecgaa
