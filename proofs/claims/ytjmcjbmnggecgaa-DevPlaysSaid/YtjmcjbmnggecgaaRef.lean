/- The document's own device (palimpsestref1), over the same model: what memory says of it, and the contracts of its methods. Conditions: none but sizes. -/
import Derived.Test.YtjmcjbmnggecgaaDevU
namespace Go.Proofs.Ytjmcjbmnggecgaa
open Go.RowKit
set_option maxRecDepth 100000
attribute [local go_sem ↓] Go.wp_at_zero Go.wp_at_succ

theorem info9 : (Try.prog.info? 9).map (fun i => (i.zero, i.size, i.bytes)) = some (some (.string ⟨#[]⟩), 1, 16) := by kernel_rfl
theorem info76 : (Try.prog.info? 76).map (fun i => (i.zero, i.size, i.bytes)) = some (some (.agg #[.int .i64 0, .string ⟨#[]⟩]), 2, 24) := by kernel_rfl

def strV (bs : List UInt8) : Value := .string ⟨bs.toArray⟩
def strs (l : List (List UInt8)) : List Value := l.map strV
def wrs (W : List (Nat × List UInt8)) : List Value := W.flatMap fun e => [.int .i64 (e.1 : Int), strV e.2]

theorem strs_length (l : List (List UInt8)) : (strs l).length = l.length := by simp [strs]
theorem wrs_snoc (W : List (Nat × List UInt8)) (e : Nat × List UInt8) : wrs (W ++ [e]) = wrs W ++ [.int .i64 (e.1 : Int), strV e.2] := by simp [wrs]
theorem wrs_length (W : List (Nat × List UInt8)) : (wrs W).length = W.length * 2 := by
  induction W with
  | nil => rfl
  | cons e W ih => simp [wrs] at *; omega
theorem wrs_at (W : List (Nat × List UInt8)) : ∀ (k : Nat) (e : Nat × List UInt8), W[k]? = some e → (wrs W)[k * 2]? = some (.int .i64 (e.1 : Int)) ∧ (wrs W)[k * 2 + 1]? = some (strV e.2) := by
  induction W with
  | nil => intro k e h; simp at h
  | cons x W ih =>
    intro k e h
    cases k with
    | zero => simp at h; subst h; simp [wrs]
    | succ k =>
      have := ih k e (by simpa using h)
      have e1 : (k + 1) * 2 = k * 2 + 2 := by omega
      rw [e1]
      simpa [wrs] using this
theorem strs_at (l : List (List UInt8)) (k : Nat) (bs : List UInt8) (h : l[k]? = some bs) : (strs l)[k]? = some (strV bs) := by simp [strs, h]
theorem strs_one (l : List (List UInt8)) : ∀ u ∈ strs l, u.oneCell' = true := by
  intro u hu
  obtain ⟨_, _, rfl⟩ := List.mem_map.1 hu
  rfl
theorem wrs_one (W : List (Nat × List UInt8)) : ∀ u ∈ wrs W, u.oneCell' = true := by
  intro u hu
  simp [wrs] at hu
  obtain ⟨_, _, _, rfl | rfl⟩ := hu <;> rfl

structure RefMem (w : World) (F : Nat → Prop) (l : List (List UInt8)) (W : List (Nat × List UInt8)) (lv cv : Value) : Prop where
  ol : w.ownsRow 0 9 1 lv l.length (strs l)
  fl : ∀ g, lv.ownBlock = some g → F g
  oc : w.ownsRow 0 76 2 cv W.length (wrs W)
  fc : ∀ g, cv.ownBlock = some g → F g

structure RefAt (w : World) (R : Nat) (F : Nat → Prop) (m : MDev) : Prop where
  own : F R
  lt : ∀ i, F i → i < w.heap.size
  n1 : 1 ≤ m.l.length
  n2 : m.l.length ≤ 8192
  f1 : -1 ≤ m.fuse
  f2 : m.fuse ≤ 9223372036854775807
  wi : ∀ (i : Nat) e, m.W[i]? = some e → e.1 < m.l.length
  mem : ∃ lv cv, Blk w R 53 #[lv, cv, .int .i64 m.fuse, .bool m.dead, .int .i64 m.calls] ∧ RefMem w F m.l m.W lv cv

section
variable {w w' : World} {R : Nat} {F F' S : Nat → Prop} {m : MDev} {l : List (List UInt8)} {W : List (Nat × List UInt8)} {lv cv : Value}
theorem RefMem.chg (h : RefMem w F l W lv cv) (hc : Chg S w w') (hS : ∀ i, F i → S i → ∃ t cs, t ≠ 9 ∧ t ≠ 76 ∧ Blk w i t cs) : RefMem w' F l W lv cv := by
  refine ⟨own_chg h.ol hc fun g hg hs => ?_, h.fl, own_chg h.oc hc fun g hg hs => ?_, h.fc⟩
  · obtain ⟨t, cs, ht, _, hb⟩ := hS g (h.fl g hg) hs
    obtain ⟨cs', hb'⟩ := own_ty h.ol hg
    exact hb.ne_ hb' ht rfl
  · obtain ⟨t, cs, _, ht, hb⟩ := hS g (h.fc g hg) hs
    obtain ⟨cs', hb'⟩ := own_ty h.oc hg
    exact hb.ne_ hb' ht rfl
theorem RefAt.frame (h : RefAt w R F m) (hc : Chg S w w') (hS : ∀ i, S i → ¬ F i) : RefAt w' R F m := by
  obtain ⟨lv, cv, hb, hm⟩ := h.mem
  exact ⟨h.own, fun i hi => Nat.lt_of_lt_of_le (h.lt i hi) hc.size, h.n1, h.n2, h.f1, h.f2, h.wi, lv, cv, hb.chg hc (fun hs => hS _ hs h.own), hm.chg hc fun i hf hs => (hS i hs hf).elim⟩
theorem RefAt.below (h : RefAt w R F m) (hb : Below w.heap.size w w') : RefAt w' R F m := h.frame (S := fun _ => False) (Chg.of_below hb) (fun _ h => h.elim)
theorem RefAt.fields {f c : Int} {d : Bool} (h : RefAt w R F m) (hm : RefMem w F m.l m.W lv cv) (hb : Blk w R 53 #[lv, cv, .int .i64 m.fuse, .bool m.dead, .int .i64 m.calls]) (hc : Chg (· = R) w w') (hb' : Blk w' R 53 #[lv, cv, .int .i64 f, .bool d, .int .i64 c]) (h1 : -1 ≤ f) (h2 : f ≤ 9223372036854775807) :
    RefAt w' R F { m with fuse := f, dead := d, calls := c } :=
  ⟨h.own, fun i hi => Nat.lt_of_lt_of_le (h.lt i hi) hc.size, h.n1, h.n2, h1, h2, h.wi, lv, cv, hb', hm.chg hc fun i _ hs => by subst hs; exact ⟨53, _, by decide, by decide, hb⟩⟩
end

/-- the fuse alone -/
def MDev.fz (m : MDev) : MDev := { m with fuse := if 0 < m.fuse then m.fuse - 1 else m.fuse }

theorem rburn_no (R : Nat) (F : Nat → Prop) (m : MDev) (w : World) (h : RefAt w R F m) (hf : m.fuse = 0) :
    Calls Try.prog 42 #[.pointer (some ⟨R, 0, none⟩)] w fun e w' => e = .returned (.int .i64 50) ∧ RefAt w' R F { m with dead := true } ∧ Chg (· = R) w w' := by
  obtain ⟨lv, cv, hb, hm⟩ := h.mem
  have c2 : w.cell? ⟨R, 2, none⟩ = some (.int .i64 0) := hb.cell_ 2 (by simp [hf])
  have c3 : w.cell? ⟨R, 3, none⟩ = some (.bool m.dead) := hb.cell_ 3 rfl
  have f3 := hb.frozen 3
  have Hb := hid hb
  have Hf := hid hf
  clear hb hf
  go_enter Try.func42, Try.ntmps42
  go_wp2
  go_ret
  refine ⟨rfl, ?_, chg_set _ _ _⟩
  exact h.fields hm Hb.out (chg_set R 3 (.bool true)) (Hb.out.set_ 3 (.bool true)) h.f1 h.f2

theorem rburn_yes (R : Nat) (F : Nat → Prop) (m : MDev) (w : World) (h : RefAt w R F m) (hf : m.fuse ≠ 0) :
    Calls Try.prog 42 #[.pointer (some ⟨R, 0, none⟩)] w fun e w' => e = .returned (.int .i64 0) ∧ RefAt w' R F m.fz ∧ Chg (· = R) w w' := by
  obtain ⟨lv, cv, hb, hm⟩ := h.mem
  obtain ⟨_, _, c2, _, _⟩ := blk5 hb
  have f2 := hb.frozen 2
  have Hb := hid hb
  have hz : (m.fuse == 0) = false := beq_eq_false_iff_ne.2 hf
  have hlo := h.f1
  have hhi := h.f2
  clear hb hf
  by_cases hp : 0 < m.fuse
  · go_enter Try.func42, Try.ntmps42
    go_wp2
    go_ret
    refine ⟨rfl, ?_, chg_set _ _ _⟩
    have := h.fields hm Hb.out (chg_set R 2 (.int .i64 (m.fuse - 1))) (f := m.fuse - 1) (c := m.calls) (d := m.dead) (Hb.out.set_ 2 _) (by omega) (by omega)
    have e : m.fz = { m with fuse := m.fuse - 1, dead := m.dead, calls := m.calls } := by simp [MDev.fz, hp]
    rw [e]; exact this
  · go_enter Try.func42, Try.ntmps42
    go_wp2
    go_ret
    refine ⟨rfl, ?_, Chg.refl _ _⟩
    have e : m.fz = m := by rw [MDev.fz, if_neg (by omega)]
    rw [e]; exact h

theorem blank_any (w : World) : Calls Try.prog 41 #[] w fun e w' => e = .returned (strV zeros) ∧ Below w.heap.size w w' := by
  have hm128 := make128
  have hstr := run_str (w.alloc (.cells (u8s zeros).toArray 5)) (some ⟨w.heap.size, 0, none⟩) 128 128 zeros (Rd.of_blk (Blk.new w 5 _) (by simp [length_u8s, zeros]))
  go_enter Try.func41, Try.ntmps41
  go_wp2
  go_ret
  exact ⟨rfl, (Below.refl _ _).alloc (Nat.le_refl _) _⟩

theorem rnew_arg (n : Int) (w : World) (hn : n < 1 ∨ 8192 < n) : Calls Try.prog 21 #[.int .i64 n] w fun e w' => e = .returned (.tuple #[.pointer none, .int .i64 1]) ∧ w = w' := by
  by_cases h1 : n < 1
  · clear hn
    go_enter Try.func21, Try.ntmps21
    go_wp2
    go_ret2
    exact ⟨rfl, rfl⟩
  · have h2 : 8192 < n := by omega
    clear hn
    go_enter Try.func21, Try.ntmps21
    go_wp2
    go_ret2
    exact ⟨rfl, rfl⟩
end Go.Proofs.Ytjmcjbmnggecgaa
