/- Decode of too few bytes, and awake of layer 3. No conditions. -/
import Derived.Test.YtkpopjpmjcgbfaaKin
namespace Go.Proofs.Ytkpopjpmjcgbfaa
open Go.RowKit
set_option maxRecDepth 100000
set_option linter.unusedVariables false
set_option linter.unusedSimpArgs false

theorem results_cell3 {P : Program} {fn : Func} {p u x : Tmp} {ty : TypeId} (h : fn.results = #[.cell p ty, .tmp u, .tmp x]) (tmps : Array Value) (w : World) (g : Nat) (t : TypeId) (cs : Array Value) (d : TypeDesc)
    (hp : tmps.getD p undef = .pointer (some ⟨g, 0, none⟩)) (hg : Blk w g t cs)
    (hu : P.underlying ty = some d) (hd : (match d with | .struct _ | .array _ _ => true | _ => false) = true) (hi : (P.info? ty).map (·.size) = some cs.size) :
    (results fn tmps).run P w = .ok (.tuple #[.agg cs, tmps.getD u undef, tmps.getD x undef]) w := by
  have hp' : tmps[p]?.getD undef = .pointer (some ⟨g, 0, none⟩) := by simpa using hp
  simp [results, h, hp', asAddr, run_loadVar_row w g t ty cs (0, 0) d hg hu hd hi]

theorem blk11 {w : World} {g : Nat} {t : TypeId} {a0 a1 a2 a3 a4 a5 a6 a7 a8 a9 a10 : Value} (h : Blk w g t #[a0, a1, a2, a3, a4, a5, a6, a7, a8, a9, a10]) :
    (w.cell? ⟨g, 0, none⟩ = some a0 ∧ w.cell? ⟨g, 1, none⟩ = some a1 ∧ w.cell? ⟨g, 2, none⟩ = some a2 ∧ w.cell? ⟨g, 3, none⟩ = some a3 ∧ w.cell? ⟨g, 4, none⟩ = some a4 ∧ w.cell? ⟨g, 5, none⟩ = some a5 ∧ w.cell? ⟨g, 6, none⟩ = some a6 ∧ w.cell? ⟨g, 7, none⟩ = some a7 ∧ w.cell? ⟨g, 8, none⟩ = some a8 ∧ w.cell? ⟨g, 9, none⟩ = some a9 ∧ w.cell? ⟨g, 10, none⟩ = some a10) ∧ ∀ i, w.frozen? ⟨g, i, none⟩ = false :=
  ⟨⟨h.cell_ 0 rfl, h.cell_ 1 rfl, h.cell_ 2 rfl, h.cell_ 3 rfl, h.cell_ 4 rfl, h.cell_ 5 rfl, h.cell_ 6 rfl, h.cell_ 7 rfl, h.cell_ 8 rfl, h.cell_ 9 rfl, h.cell_ 10 rfl⟩, fun i => h.frozen i⟩
/-- a whole record is stored -/
theorem blk_store11 {w : World} {g : Nat} {t : TypeId} {a0 a1 a2 a3 a4 a5 a6 a7 a8 a9 a10 : Value} (b0 b1 b2 b3 b4 b5 b6 b7 b8 b9 b10 : Value) (h : Blk w g t #[a0, a1, a2, a3, a4, a5, a6, a7, a8, a9, a10]) : Blk (((((((((((w.setCell ⟨g, 0, none⟩ b0).setCell ⟨g, 1, none⟩ b1).setCell ⟨g, 2, none⟩ b2).setCell ⟨g, 3, none⟩ b3).setCell ⟨g, 4, none⟩ b4).setCell ⟨g, 5, none⟩ b5).setCell ⟨g, 6, none⟩ b6).setCell ⟨g, 7, none⟩ b7).setCell ⟨g, 8, none⟩ b8).setCell ⟨g, 9, none⟩ b9).setCell ⟨g, 10, none⟩ b10) g t #[b0, b1, b2, b3, b4, b5, b6, b7, b8, b9, b10] := by
  have := (((((((((((h.set_ 0 b0).set_ 1 b1).set_ 2 b2).set_ 3 b3).set_ 4 b4).set_ 5 b5).set_ 6 b6).set_ 7 b7).set_ 8 b8).set_ 9 b9).set_ 10 b10)
  simpa using this
theorem chg_store11 {w : World} (g : Nat) (b0 b1 b2 b3 b4 b5 b6 b7 b8 b9 b10 : Value) : Chg (· = g) w (((((((((((w.setCell ⟨g, 0, none⟩ b0).setCell ⟨g, 1, none⟩ b1).setCell ⟨g, 2, none⟩ b2).setCell ⟨g, 3, none⟩ b3).setCell ⟨g, 4, none⟩ b4).setCell ⟨g, 5, none⟩ b5).setCell ⟨g, 6, none⟩ b6).setCell ⟨g, 7, none⟩ b7).setCell ⟨g, 8, none⟩ b8).setCell ⟨g, 9, none⟩ b9).setCell ⟨g, 10, none⟩ b10) := ((((((((((((Chg.refl (· = g) w).setCell (p := ⟨g, 0, none⟩) (fun _ => rfl) b0).setCell (p := ⟨g, 1, none⟩) (fun _ => rfl) b1).setCell (p := ⟨g, 2, none⟩) (fun _ => rfl) b2).setCell (p := ⟨g, 3, none⟩) (fun _ => rfl) b3).setCell (p := ⟨g, 4, none⟩) (fun _ => rfl) b4).setCell (p := ⟨g, 5, none⟩) (fun _ => rfl) b5).setCell (p := ⟨g, 6, none⟩) (fun _ => rfl) b6).setCell (p := ⟨g, 7, none⟩) (fun _ => rfl) b7).setCell (p := ⟨g, 8, none⟩) (fun _ => rfl) b8).setCell (p := ⟨g, 9, none⟩) (fun _ => rfl) b9).setCell (p := ⟨g, 10, none⟩) (fun _ => rfl) b10)
def rec0 : MRec := ⟨0, 0, 0, 0, 0, 0, [], [], [], [], 0⟩

set_option maxHeartbeats 1600000 in
theorem decode_short (A : Option Addr) (n c : Nat) (bs : List UInt8) (w : World) (hr : Rd w 1 A n (u8s bs)) (hn : n = bs.length) (hc : n ≤ c) (h8 : n < 8) (hA : ∀ ad, A = some ad → ad.block < w.heap.size) :
    Calls Try.prog 11 #[.slice A n c] w fun e w' => e = .returned (.tuple #[recVal rec0 none 0 none 0 none 0 none 0, .int .i64 0, .bool false]) ∧ Below w.heap.size w w' := by
  have hbad := hid (num_bad ⟨bs, false⟩ (.inr (.inl (by rw [← hn]; exact h8))))
  have hb1 := Blk.new w 28 #[.int .i64 0, .int .i64 0, .int .i64 0, .int .i64 0, .int .i64 0, .int .i64 0, .slice none 0 0, .slice none 0 0, .slice none 0 0, .slice none 0 0, .int .i64 0]
  have HB1 := hid hb1
  have hb2 := Blk.new (w.alloc (.cells #[.int .i64 0, .int .i64 0, .int .i64 0, .int .i64 0, .int .i64 0, .int .i64 0, .slice none 0 0, .slice none 0 0, .slice none 0 0, .slice none 0 0, .int .i64 0] 28)) 52 #[.slice A n c, .bool false]
  have hsz1 : (w.alloc (.cells #[.int .i64 0, .int .i64 0, .int .i64 0, .int .i64 0, .int .i64 0, .int .i64 0, .slice none 0 0, .slice none 0 0, .slice none 0 0, .slice none 0 0, .int .i64 0] 28)).heap.size = w.heap.size + 1 := by simp
  rw [hsz1] at hb2
  have HB2 := hid hb2
  have Hr := hid hr
  have Hn := hid hn
  have HA := hid hA
  clear hb1 hb2 hr hA hn h8 hsz1
  go_enter Try.func11, Try.ntmps11
  go_wp2_with fail
  refine (rd_num w.heap.size (w.heap.size + 1) ⟨bs, false⟩ _ ⟨A, n, c, HB2.out, by omega, HA.out, hc, fun _ => Hn.out, fun _ => Hr.out.keep (by simp; omega) (fun ad e hl => ?_)⟩).mono ?_
  · rw [Below.heap_alloc _ _ _ (by simp; omega), Below.heap_alloc _ _ _ hl]
  rintro e w1 ⟨rfl, hr1, hc1⟩
  rw [hbad.out] at hr1 ⊢
  obtain ⟨A1, n1, c1, h1⟩ := hr1
  have d1 : w1.cell? ⟨w.heap.size + 1, 1, none⟩ = some (.bool true) := h1.box.cell_ 1 rfl
  have hx := (HB1.out.alloc (.cells #[.slice A n c, .bool false] 52)).chg hc1 (by omega)
  obtain ⟨⟨x0, x1, x2, x3, x4, x5, x6, x7, x8, x9, x10⟩, hfz⟩ := blk11 hx
  have HX := hid hx
  have hbe : Hid (Below w.heap.size w w1) := hid ((((Below.refl _ w).alloc (Nat.le_refl _) _).alloc (by simp) _).trans (hc1.below (by simp; omega) (fun i hi => by omega)))
  clear hx hc1 h1
  go_wp2_with fail
  refine bodyPost_ret (results_cell3 rfl _ _ w.heap.size 28 _ _ rfl (blk_store11 _ _ _ _ _ _ _ _ _ _ _ HX.out) Try.underlying28 rfl (by kernel_rfl)) rfl ?_
  exact ⟨rfl, hbe.out.trans ((chg_store11 w.heap.size _ _ _ _ _ _ _ _ _ _ _).below hbe.out.size (fun i hi => by omega))⟩

theorem make7 (W : World) : (Instr.makeSlice 23 (.int .i64 7) (.int .i64 7)).run Try.prog W = .ok (.slice (some ⟨W.heap.size, 0, none⟩) 7 7) (W.alloc (.cells (madeCells #[.int .u8 0] 7) 5)) :=
  run_make_row' (P := Try.prog) 23 5 (.int .u8 0) 1 Try.underlying23 info5 rfl .i64 .i64 7 (by omega) (by omega) W
def rec1 : MRec := ⟨1, 0, 0, 0, 0, 0, [], [], [], [], 0⟩

theorem RecMem.nil {w : World} {r : MRec} (hb : r.before = []) (ha : r.after = []) (ht : r.txns = []) (hd : r.dirty = []) : RecMem w r none none none none := by
  refine ⟨?_, ?_, ?_, ?_⟩
  · rw [hb]; exact ⟨rfl, fun h => absurd h (by simp)⟩
  · rw [ha]; exact ⟨rfl, fun h => absurd h (by simp)⟩
  · rw [ht]; exact ⟨rfl, fun h => absurd h (by simp)⟩
  · rw [hd]; exact ⟨rfl, fun h => absurd h (by simp)⟩

set_option maxHeartbeats 1600000 in
theorem awake_any (w : World) : Calls Try.prog 9 #[] w fun e w' => e = .returned (.bool true) ∧ Below w.heap.size w w' := by
  have hmk := make7
  have hrd : Rd (w.alloc (.cells (madeCells #[.int .u8 0] 7) 5)) 1 (some ⟨w.heap.size, 0, none⟩) 7 (u8s (List.replicate 7 0)) := by
    have hb := Blk.new w 5 (madeCells #[.int .u8 0] 7)
    exact Rd.of_blk (blk_u8s (by rw [toList_madeCells_one]; rfl) hb) rfl
  have hb0 : Below w.heap.size w (w.alloc (.cells (madeCells #[.int .u8 0] 7) 5)) := (Below.refl _ _).alloc (Nat.le_refl _) _
  have Hrd := hid hrd
  have Hb0 := hid hb0
  clear hrd hb0
  go_enter Try.func9, Try.ntmps9
  go_wp2_with fail
  refine (decode_short _ 7 7 (List.replicate 7 0) _ (by exact Hrd.out) rfl (by omega) (by omega) (by rintro ad h; injection h with h; subst h; simp)).mono ?_
  rintro e w1 ⟨rfl, hb1'⟩
  have hb1 := hid (Hb0.out.trans (hb1'.mono Hb0.out.size))
  have hv : recVal rec0 none 0 none 0 none 0 none 0 = .agg #[.int .i64 0, .int .i64 0, .int .i64 0, .int .i64 0, .int .i64 0, .int .i64 0, .slice none 0 0, .slice none 0 0, .slice none 0 0, .slice none 0 0, .int .i64 0] := rfl
  rw [hv]
  clear hb1'
  go_wp2_with fail
  refine (size_any rec0 none 0 none 0 none 0 none 0 _ (by decide)).mono ?_
  rintro e w2 ⟨rfl, hb2'⟩
  have hb2 := hid ((hb1.out.alloc hb1.out.size _).trans (hb2'.mono (by have := hb1.out.size; simp; omega)))
  have hz : (rec0.size : Int) = 96 := rfl
  clear hb2'
  go_wp2_with fail
  refine (encode_any rec1 none 0 none 0 none 0 none 0 _ (RecMem.nil rfl rfl rfl rfl) (by decide)).mono ?_
  rintro e w3 ⟨A3, N3, c3, rfl, hb3'⟩
  have hb3 := hid (hb2.out.trans (hb3'.be.mono hb2.out.size))
  have hN : N3 = 96 := by rw [hb3'.len, length_enc]; rfl
  subst hN
  clear hb3'
  go_wp2_with fail
  refine (kind_any 3 _).mono ?_
  rintro e w4 ⟨rfl, hb4'⟩
  have hb4 := hid (hb3.out.trans (hb4'.mono hb3.out.size))
  have hk : kindS 3 = ⟨#[99, 108, 114]⟩ := rfl
  rw [hk]
  clear hb4'
  go_wp2
  go_ret
  exact ⟨rfl, hb4.out⟩
end Go.Proofs.Ytkpopjpmjcgbfaa
