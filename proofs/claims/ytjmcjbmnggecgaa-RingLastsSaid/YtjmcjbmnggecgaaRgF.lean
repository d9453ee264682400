/- ring.flush and Flush. Conditions: sizes. -/
import Derived.Test.YtjmcjbmnggecgaaRgW
namespace Go.Proofs.Ytjmcjbmnggecgaa
open Go.RowKit
set_option maxRecDepth 100000
set_option linter.unusedVariables false
set_option linter.unusedSimpArgs false

/-- a flush under way -/
structure FlS (w wr : World) (R D : Nat) (F G F' G' B : Nat → Prop) (q : MRing) (f f' : Int) (l : List (List UInt8)) (W : List (Nat × List UInt8)) (dd : Bool) : Prop where
  dv : Dv wr D F' G' l W dd f'
  fs : ∀ i, F' i → F i ∨ w.heap.size ≤ i
  gs : ∀ i, G' i → G i ∨ w.heap.size ≤ i
  ch : Chg F w wr
  mem : RgMem wr R D B q
  dis : ∀ i, B i → ¬ F' i ∧ ¬ G' i
  ff : f = -1 → f' = -1
theorem FlS.step {w wr w2 : World} {R D : Nat} {F G F1 G1 F2 G2 B : Nat → Prop} {q : MRing} {f f1 f2 : Int} {l l2 : List (List UInt8)} {W W2 : List (Nat × List UInt8)} {dd dd2 : Bool} (h : FlS w wr R D F G F1 G1 B q f f1 l W dd) (hB : ∀ i, B i → i < w.heap.size)
    (hd : Dv w2 D F2 G2 l2 W2 dd2 f2) (a : ∀ i, F2 i → F1 i ∨ wr.heap.size ≤ i) (b : ∀ i, G2 i → G1 i ∨ wr.heap.size ≤ i) (c : Chg F1 wr w2) (hf : f1 = -1 → f2 = -1) : FlS w w2 R D F G F2 G2 B q f f2 l2 W2 dd2 := by
  have hs := h.ch.size
  refine ⟨hd, fun i hi => ?_, fun i hi => ?_, h.ch.trans' c (fun i hi h1 => ?_), h.mem.chg c (fun i hi => (h.dis i hi).1), fun i hi => ⟨fun h2 => ?_, fun h2 => ?_⟩, fun e => hf (h.ff e)⟩
  · rcases a i hi with h1 | h1
    · exact h.fs i h1
    · exact .inr (by omega)
  · rcases b i hi with h1 | h1
    · exact h.gs i h1
    · exact .inr (by omega)
  · rcases h.fs i h1 with h2 | h2
    · exact h2
    · omega
  · have := hB i hi
    rcases a i h2 with h1 | h1
    · exact (h.dis i hi).1 h1
    · omega
  · have := hB i hi
    rcases b i h2 with h1 | h1
    · exact (h.dis i hi).2 h1
    · omega
theorem FlS.drewN {w wr : World} {R D : Nat} {F G F1 G1 B : Nat → Prop} {q : MRing} {f f1 : Int} {l : List (List UInt8)} {W : List (Nat × List UInt8)} {dd : Bool} (h : FlS w wr R D F G F1 G1 B q f f1 l W dd) (n : Nat) : FlS w (wr.drewN n) R D F G F1 G1 B q f f1 l W dd :=
  ⟨h.dv.below (below_drewN (Below.refl _ _) _), h.fs, h.gs, h.ch.drewN n, h.mem.drewN n, h.dis, h.ff⟩
theorem fw_next (all : List UInt8) (fr n first k : Nat) (h : first + 1 ≤ k) : fw all fr n first (k - first - 1) ++ [(fr + k % n, secOf all k)] = fw all fr n first (k + 1 - first - 1) := by
  rw [show k + 1 - first - 1 = (k - first - 1) + 1 by omega, fw_succ, show first + 1 + (k - first - 1) = k by omega]
theorem fw1_take (all : List UInt8) (fr n first last j : Nat) (h : j ≤ last - first) : fw all fr n first j = (fw1 all fr n first last).take j := by
  unfold fw1
  rw [List.take_append_of_le_length (by rw [fw_length]; exact h)]
  unfold fw
  rw [← List.map_take, List.take_range, Nat.min_eq_left h]
theorem burnt_neg {f : Int} (h : f = -1) : burnt f = -1 := by subst h; rfl
/-- what a flush has made of the device: all, or the old one and some writes that wait -/
def FlushPost (R D : Nat) (F G B : Nat → Prop) (q : MRing) (f : Int) (l : List (List UInt8)) (W1 W2 : List (Nat × List UInt8)) (w : World) (e : Ending) (w' : World) : Prop :=
  ∃ F' G' f' l' W' dd, FlS w w' R D F G F' G' B q f f' l' W' dd ∧
    ((e = .returned (.int .i64 0) ∧ dd = false ∧ l' = applyW (applyW l W1) W2 ∧ W' = []) ∨
     (e = .returned (.int .i64 50) ∧ f ≠ -1 ∧ ((l' = l ∧ ∃ j, W' = W1.take j) ∨ (l' = applyW l W1 ∧ (W' = [] ∨ W' = W2)))))
set_option maxHeartbeats 6400000 in
theorem flush_any (R D : Nat) (F G B : Nat → Prop) (q : MRing) (l : List (List UInt8)) (f : Int) (w : World) (hm : RgMem w R D B q) (hd : Dv w D F G l [] false f) (hdis : ∀ i, B i → ¬ F i ∧ ¬ G i) (hq : QOk q) (hfn : q.fr + q.n ≤ l.length) (hl : l.length ≤ 8192)
    (all : List UInt8) (hall : q.bytes = all.drop q.base) (hta : q.tail = all.length) (hfin : q.fin < q.tail) :
    Calls Try.prog 47 #[.pointer (some ⟨R, 0, none⟩)] w fun e w' => FlushPost R D F G B q f l (fw1 all q.fr q.n (q.fin / 118) ((all.length - 1) / 118)) (fw2 all q.fr q.n (q.fin / 118)) w e w' := by
  have HB0 := hid hm.lt
  have HM := hid hm
  have HALL := hid hall
  obtain ⟨first, hfi⟩ : ∃ first, first = q.fin / 118 := ⟨_, rfl⟩
  obtain ⟨last, hla⟩ : ∃ last, last = (all.length - 1) / 118 := ⟨_, rfl⟩
  have htl := hq.tl
  have hqb := hq.b
  have hn2 := hq.n2
  have hn8 := hq.n8
  have hcap := hq.c
  have he1 := hq.e1
  rw [← hfi, ← hla]
  have hfl : first ≤ last := by omega
  have hlb : last ≤ 100000000000 := by omega
  have hbf : q.base ≤ first * 118 := by omega
  have hln : last - first ≤ 8192 := by omega
  have htot : all.length ≤ 2199023255552 := by omega
  have hlast : last * 118 < all.length := by omega
  have hbl : q.bytes.length ≤ 1000000 := htl.2.1
  have htail := fun m => tail_any R D B q (w.drewN m) (hm.drewN m) (by omega)
  have HT := hid htail
  obtain ⟨Aq, cq, Hq, c0, c1, c2, c3, c4, c5, c6, c7⟩ := hm.cells
  obtain ⟨T, hT⟩ : ∃ T, T = q.tail := ⟨_, rfl⟩
  rw [← hT] at HT
  have hTa : Hid (T = all.length) := hid (by omega)
  have hw1 : (q.fin : Int).tdiv 118 = (first : Int) := by rw [Int.tdiv_eq_ediv_of_nonneg (by omega)]; omega
  have hw2 : IntKind.i64.wrap ((T : Int) - 1) = (T : Int) - 1 := by rw [IntKind.wrap_i64]; omega
  have hw3 : ((T : Int) - 1).tdiv 118 = (last : Int) := by rw [Int.tdiv_eq_ediv_of_nonneg (by omega)]; omega
  have hw1' : (q.fin : Int) / 118 = (first : Int) := by omega
  have hw3' : ((T : Int) - 1) / 118 = (last : Int) := by omega
  have HS0 : Hid (FlS w w R D F G F G B q f f l [] false) := hid ⟨hd, fun i h => .inl h, fun i h => .inl h, Chg.refl _ _, hm, hdis, id⟩
  have hT0 : 0 ≤ (T : Int) - 1 := by omega
  clear hm hd hdis hall hta hfin hfi hla htail htl hqb hcap he1 hT
  go_enter Try.func47, Try.ntmps47
  go_wp2_with fail
  go_quiet ((go_at_call 33; exact Calls.quiet_of (HT.out _)))
  go_upto_block 0 with fail
  generalize hwd : w.drewN nq = wd
  have HS1 : Hid (FlS w wd R D F G F G B q f f l [] false) := hid (by rw [← hwd]; exact HS0.out.drewN _)
  clear hwd HS0 c0 c1 c2 c3 c4 c5 c6 c7
  go_cut [] (fun wx => ∃ F1 G1 f1, FlS w wx R D F G F1 G1 B q f f1 l (fw all q.fr q.n first (last - first)) false)
  case first => as_aux_lemma =>
    go_wp2_with fail
    go_loopw [5] (fun i wr => ∃ (k : Nat) (F1 G1 : Nat → Prop) (f1 : Int), first + 1 ≤ k ∧ k ≤ last + 1 ∧ i = .int .i64 k ∧ FlS w wr R D F G F1 G1 B q f f1 l (fw all q.fr q.n first (k - first - 1)) false) (fun i _ => last + 1 - (intOf i).toNat)
    case atStart => exact ⟨first + 1, F, G, f, by omega, by omega, by go_num, by rw [show first + 1 - first - 1 = 0 by omega]; exact HS1.out⟩
    case round => as_aux_lemma =>
      obtain ⟨k, F1, G1, f1, hk1, hk2, rfl, hS⟩ := hrel
      have HS := hid hS
      have hwl : (fw all q.fr q.n first (k - first - 1)).length ≤ 1000000 := by rw [fw_length]; omega
      by_cases hlt : k ≤ last
      · have hlt' : (k : Int) ≤ (last : Int) := by omega
        by_cases hf0 : f1 = 0
        · as_aux_lemma =>
          subst hf0
          have hwr := hid (rwrite_no R D F1 G1 B q l _ wr hS.mem hS.dv hS.dis (by omega) hfn hl hwl all HALL.out htot k (by omega) (by omega) hbl)
          clear hS HS1
          go_wp2_with fail
          refine hwr.out.mono ?_
          rintro e w2 ⟨rfl, h1, h4⟩
          have HS2 := hid (HS.out.step HB0.out h1 (fun i h => .inl h) (fun i h => .inl h) h4 (fun e => by cases e))
          clear h1 h4
          go_wp2
          go_ret
          exact ⟨F1, G1, 0, l, _, true, HS2.out, .inr ⟨rfl, fun e => absurd (HS.out.ff e) (by decide), .inl ⟨rfl, k - first - 1, fw1_take _ _ _ _ _ _ (by omega)⟩⟩⟩
        · as_aux_lemma =>
          have hwr := hid (rwrite_ok R D F1 G1 B q l _ f1 wr hS.mem hS.dv hS.dis (by omega) hfn hl hwl all HALL.out htot k (by omega) (by omega) hbl hf0)
          clear hS HS1
          go_wp2_with fail
          refine hwr.out.mono ?_
          rintro e w2 ⟨rfl, F2, G2, h1, h2, h3, h4⟩
          have HS2 := hid (HS.out.step HB0.out h1 h2 h3 h4 (fun e => burnt_neg e))
          rw [fw_next _ _ _ _ _ hk1] at HS2
          clear h1 h2 h3 h4
          go_wp2
          go_roundw
          case rel => exact ⟨k + 1, F2, G2, _, by omega, by omega, by go_num, HS2.out⟩
          case measure => simp [intOf]; omega
      · as_aux_lemma =>
        have hlt' : ¬ ((k : Int) ≤ (last : Int)) := by omega
        have hk : k - first - 1 = last - first := by omega
        clear hS
        go_wp2
        go_meet
        exact ⟨F1, G1, f1, by rw [← hk]; exact HS.out⟩
  case rest => as_aux_lemma =>
    obtain ⟨F1, G1, f1, hS⟩ := hcut
    have HS := hid hS
    obtain ⟨Aq2, cq2, Hq2, e0, e1, e2, e3, e4, e5, e6, e7⟩ := hS.mem.cells
    have hltR := hS.mem.lt R hS.mem.own
    have hnF : ¬ F1 R := (hS.dis R hS.mem.own).1
    have hFD : F1 D := hS.dv.lt.2.2
    obtain ⟨is, hisd⟩ : ∃ is, is = q.fr + (last + 1) % q.n := ⟨_, rfl⟩
    have his : is < l.length := by have := Nat.mod_lt (last + 1) (show 0 < q.n by omega); omega
    have hv1 : IntKind.i64.wrap ((last : Int) + 1) = (last : Int) + 1 := by rw [IntKind.wrap_i64]; omega
    have hv2 : ((last : Int) + 1).tmod (q.n : Int) = ((last : Int) + 1) % (q.n : Int) := Int.tmod_eq_emod_of_nonneg (by omega)
    have hvc : (is : Int) = (q.fr : Int) + ((last : Int) + 1) % (q.n : Int) := by rw [hisd]; simp
    have hv3 : IntKind.i64.wrap ((q.fr : Int) + ((last : Int) + 1) % (q.n : Int)) = (is : Int) := by rw [← hvc, IntKind.wrap_i64]; omega
    clear hvc
    have hn0 : ((q.n : Int) == 0) = false := beq_eq_false_iff_ne.mpr (by omega)
    have hn1 : ¬ (q.n : Int) = 0 := by omega
    have hn3 : ¬ q.n = 0 := by omega
    have hm := make128
    have hbz : Below wc.heap.size wc (wc.drew.alloc (.cells (u8s zeros).toArray 5)) := ((Below.refl _ _).drew).alloc (Nat.le_refl _) _
    have HDz := hid (hS.dv.below hbz)
    have HCz : Hid (Chg F1 wc (wc.drew.alloc (.cells (u8s zeros).toArray 5))) := hid (Chg.of_below hbz)
    have HRz : Hid (Rd (wc.drew.alloc (.cells (u8s zeros).toArray 5)) 1 (some ⟨wc.heap.size, 0, none⟩) 128 (u8s zeros)) := hid (Rd.of_blk (Blk.new wc.drew 5 _) (by rw [length_u8s]; rfl))
    have hAz : Hid (∀ ad, (some (⟨wc.heap.size, 0, none⟩ : Addr)) = some ad → ¬ ad.block = D) := hid (fun ad e h => by injection e with e; subst e; have := hS.dv.lt.1 D hFD; have h : wc.heap.size = D := h; omega)
    have hWl : Hid ((fw all q.fr q.n first (last - first)).length ≤ 1000000) := hid (by rw [fw_length]; omega)
    have His := hid hisd
    clear hS HS1 hbz hisd e3 e4 e5 e6 e7
    by_cases hf0 : f1 = 0
    · as_aux_lemma =>
      subst hf0
      go_wp2_with fail
      refine wp_region_held_drew (S := fun w' => Chg F1 wc w') (by kernel_rfl) (by exact (Chg.refl _ _).drew) (fun hHeld0 => ?_)
      refine wpAnyH_take (i := 0) (oi := { dst := some 32, op := Op.move (Operand.tmp 0), type := 59, pos := _, after := #[], guard := none }) (v := ?_) rfl (by kernel_rfl) (by kernel_rfl) (by kernel_rfl) (fun _ _ _ h => h) (Or.inl ⟨by rfl, ?_⟩) (by assumption) ?_
      rotate_left
      · (intro w' hSw; (try dsimp only at hSw); clear hSw; go_simp; try with_reducible rfl)
      try simp only [Act.put, List.setIfInBounds_toArray, List.set_cons_zero, List.set_cons_succ]
      refine wpAnyH_take (i := 1) (oi := { dst := some 33, op := Op.nilCheck (Operand.tmp 32), type := 0, pos := _, after := #[{ on := 0, ground := Ground.data }], guard := none }) (v := ?_) rfl (by kernel_rfl) (by kernel_rfl) (by kernel_rfl) (fun _ _ _ h => h) (Or.inl ⟨by rfl, ?_⟩) (by assumption) ?_
      rotate_left
      · (intro w' hSw; (try dsimp only at hSw); clear hSw; go_simp; try with_reducible rfl)
      try simp only [Act.put, List.setIfInBounds_toArray, List.set_cons_zero, List.set_cons_succ]
      refine wpAnyH_take (i := 2) (oi := { dst := some 34, op := Op.fieldAddr 80 (Operand.tmp 33) 0, type := 0, pos := _, after := #[{ on := 1, ground := Ground.data }], guard := none }) (v := ?_) rfl (by kernel_rfl) (by kernel_rfl) (by kernel_rfl) (fun _ _ _ h => h) (Or.inl ⟨by rfl, ?_⟩) (by assumption) ?_
      rotate_left
      · (intro w' hSw; (try dsimp only at hSw); clear hSw; go_simp; try with_reducible rfl)
      try simp only [Act.put, List.setIfInBounds_toArray, List.set_cons_zero, List.set_cons_succ]
      refine wpAnyH_take (i := 3) (oi := { dst := some 35, op := Op.load 24 (Operand.tmp 34), type := 24, pos := _, after := #[{ on := 2, ground := Ground.data }], guard := none }) (v := ?_) rfl (by kernel_rfl) (by kernel_rfl) (by kernel_rfl) (fun _ _ _ h => h) (Or.inl ⟨by rfl, ?_⟩) (by assumption) ?_
      rotate_left
      · (intro w' hSw; (try dsimp only at hSw); have q0 := (hSw.cell (p := ⟨R, 0, none⟩) hltR hnF).trans e0; clear hSw; go_simp; try with_reducible rfl)
      try simp only [Act.put, List.setIfInBounds_toArray, List.set_cons_zero, List.set_cons_succ]
      refine wpAnyH_take (i := 4) (oi := { dst := some 36, op := Op.move (Operand.tmp 0), type := 59, pos := _, after := #[], guard := none }) (v := ?_) rfl (by kernel_rfl) (by kernel_rfl) (by kernel_rfl) (fun _ _ _ h => h) (Or.inl ⟨by rfl, ?_⟩) (by assumption) ?_
      rotate_left
      · (intro w' hSw; (try dsimp only at hSw); clear hSw; go_simp; try with_reducible rfl)
      try simp only [Act.put, List.setIfInBounds_toArray, List.set_cons_zero, List.set_cons_succ]
      refine wpAnyH_take (i := 5) (oi := { dst := some 37, op := Op.nilCheck (Operand.tmp 36), type := 0, pos := _, after := #[{ on := 4, ground := Ground.data }], guard := none }) (v := ?_) rfl (by kernel_rfl) (by kernel_rfl) (by kernel_rfl) (fun _ _ _ h => h) (Or.inl ⟨by rfl, ?_⟩) (by assumption) ?_
      rotate_left
      · (intro w' hSw; (try dsimp only at hSw); clear hSw; go_simp; try with_reducible rfl)
      try simp only [Act.put, List.setIfInBounds_toArray, List.set_cons_zero, List.set_cons_succ]
      refine wpAnyH_take (i := 6) (oi := { dst := some 38, op := Op.fieldAddr 80 (Operand.tmp 37) 1, type := 0, pos := _, after := #[{ on := 5, ground := Ground.data }], guard := none }) (v := ?_) rfl (by kernel_rfl) (by kernel_rfl) (by kernel_rfl) (fun _ _ _ h => h) (Or.inl ⟨by rfl, ?_⟩) (by assumption) ?_
      rotate_left
      · (intro w' hSw; (try dsimp only at hSw); clear hSw; go_simp; try with_reducible rfl)
      try simp only [Act.put, List.setIfInBounds_toArray, List.set_cons_zero, List.set_cons_succ]
      refine wpAnyH_take (i := 7) (oi := { dst := some 39, op := Op.load 3 (Operand.tmp 38), type := 3, pos := _, after := #[{ on := 6, ground := Ground.data }], guard := none }) (v := ?_) rfl (by kernel_rfl) (by kernel_rfl) (by kernel_rfl) (fun _ _ _ h => h) (Or.inl ⟨by rfl, ?_⟩) (by assumption) ?_
      rotate_left
      · (intro w' hSw; (try dsimp only at hSw); have q0 := (hSw.cell (p := ⟨R, 1, none⟩) hltR hnF).trans e1; clear hSw; go_simp; try with_reducible rfl)
      try simp only [Act.put, List.setIfInBounds_toArray, List.set_cons_zero, List.set_cons_succ]
      refine wpAnyH_take (i := 8) (oi := { dst := some 40, op := Op.move (Operand.tmp 4), type := 3, pos := _, after := #[], guard := none }) (v := ?_) rfl (by kernel_rfl) (by kernel_rfl) (by kernel_rfl) (fun _ _ _ h => h) (Or.inl ⟨by rfl, ?_⟩) (by assumption) ?_
      rotate_left
      · (intro w' hSw; (try dsimp only at hSw); clear hSw; go_simp; try with_reducible rfl)
      try simp only [Act.put, List.setIfInBounds_toArray, List.set_cons_zero, List.set_cons_succ]
      refine wpAnyH_take (i := 9) (oi := { dst := some 41, op := Op.binOp BinOp.add 3 (Operand.tmp 40) (Operand.const (Value.int IntKind.i64 1)) 3, type := 3, pos := _, after := #[{ on := 8, ground := Ground.data }], guard := none }) (v := ?_) rfl (by kernel_rfl) (by kernel_rfl) (by kernel_rfl) (fun _ _ _ h => h) (Or.inl ⟨by rfl, ?_⟩) (by assumption) ?_
      rotate_left
      · (intro w' hSw; (try dsimp only at hSw); clear hSw; go_simp; try with_reducible rfl)
      try simp only [Act.put, List.setIfInBounds_toArray, List.set_cons_zero, List.set_cons_succ]
      refine wpAnyH_take (i := 10) (oi := { dst := some 42, op := Op.move (Operand.tmp 0), type := 59, pos := _, after := #[], guard := none }) (v := ?_) rfl (by kernel_rfl) (by kernel_rfl) (by kernel_rfl) (fun _ _ _ h => h) (Or.inl ⟨by rfl, ?_⟩) (by assumption) ?_
      rotate_left
      · (intro w' hSw; (try dsimp only at hSw); clear hSw; go_simp; try with_reducible rfl)
      try simp only [Act.put, List.setIfInBounds_toArray, List.set_cons_zero, List.set_cons_succ]
      refine wpAnyH_take (i := 11) (oi := { dst := some 43, op := Op.nilCheck (Operand.tmp 42), type := 0, pos := _, after := #[{ on := 10, ground := Ground.data }], guard := none }) (v := ?_) rfl (by kernel_rfl) (by kernel_rfl) (by kernel_rfl) (fun _ _ _ h => h) (Or.inl ⟨by rfl, ?_⟩) (by assumption) ?_
      rotate_left
      · (intro w' hSw; (try dsimp only at hSw); clear hSw; go_simp; try with_reducible rfl)
      try simp only [Act.put, List.setIfInBounds_toArray, List.set_cons_zero, List.set_cons_succ]
      refine wpAnyH_take (i := 12) (oi := { dst := some 44, op := Op.fieldAddr 80 (Operand.tmp 43) 2, type := 0, pos := _, after := #[{ on := 11, ground := Ground.data }], guard := none }) (v := ?_) rfl (by kernel_rfl) (by kernel_rfl) (by kernel_rfl) (fun _ _ _ h => h) (Or.inl ⟨by rfl, ?_⟩) (by assumption) ?_
      rotate_left
      · (intro w' hSw; (try dsimp only at hSw); have q0 := (hSw.cell (p := ⟨R, 2, none⟩) hltR hnF).trans e2; clear hSw; go_simp; try with_reducible rfl)
      try simp only [Act.put, List.setIfInBounds_toArray, List.set_cons_zero, List.set_cons_succ]
      refine wpAnyH_take (i := 13) (oi := { dst := some 45, op := Op.load 3 (Operand.tmp 44), type := 3, pos := _, after := #[{ on := 12, ground := Ground.data }], guard := none }) (v := ?_) rfl (by kernel_rfl) (by kernel_rfl) (by kernel_rfl) (fun _ _ _ h => h) (Or.inl ⟨by rfl, ?_⟩) (by assumption) ?_
      rotate_left
      · (intro w' hSw; (try dsimp only at hSw); have q0 := (hSw.cell (p := ⟨R, 2, none⟩) hltR hnF).trans e2; clear hSw; go_simp; try with_reducible rfl)
      try simp only [Act.put, List.setIfInBounds_toArray, List.set_cons_zero, List.set_cons_succ]
      refine wpAnyH_take (i := 14) (oi := { dst := some 46, op := Op.binOp BinOp.rem 3 (Operand.tmp 41) (Operand.tmp 45) 3, type := 3, pos := _, after := #[{ on := 9, ground := Ground.data }, { on := 13, ground := Ground.data }], guard := none }) (v := ?_) rfl (by kernel_rfl) (by kernel_rfl) (by kernel_rfl) (fun _ _ _ h => h) (Or.inl ⟨by rfl, ?_⟩) (by assumption) ?_
      rotate_left
      · (intro w' hSw; (try dsimp only at hSw); clear hSw; go_simp; try with_reducible rfl)
      try simp only [Act.put, List.setIfInBounds_toArray, List.set_cons_zero, List.set_cons_succ]
      refine wpAnyH_take (i := 15) (oi := { dst := some 47, op := Op.binOp BinOp.add 3 (Operand.tmp 39) (Operand.tmp 46) 3, type := 3, pos := _, after := #[{ on := 7, ground := Ground.data }, { on := 14, ground := Ground.data }], guard := none }) (v := ?_) rfl (by kernel_rfl) (by kernel_rfl) (by kernel_rfl) (fun _ _ _ h => h) (Or.inl ⟨by rfl, ?_⟩) (by assumption) ?_
      rotate_left
      · (intro w' hSw; (try dsimp only at hSw); clear hSw; go_simp; try with_reducible rfl)
      try simp only [Act.put, List.setIfInBounds_toArray, List.set_cons_zero, List.set_cons_succ]
      refine wpAnyH_ready (rs := [16]) (by kernel_rfl) (by simp) ?_
      refine AllReadyH.cons (o := { dst := some 48, op := Op.makeSlice 30 (Operand.const (Value.int IntKind.i64 128)) (Operand.const (Value.int IntKind.i64 128)), type := 30, pos := _, after := #[], guard := none }) rfl (fun K hK => ?_) AllReadyH.nil
      go_simp
      refine hK.out _ _ (HCz.out) (fun hHeld1 => ?_)
      clear hK K
      try simp only [Act.put, List.setIfInBounds_toArray, List.set_cons_zero, List.set_cons_succ]
      refine wpAnyH_ready (rs := [17]) (by kernel_rfl) (by simp) ?_
      refine AllReadyH.cons (o := { dst := some 49, op := Op.call { callee := Callee.value (Operand.func 12), args := #[Operand.tmp 35, Operand.tmp 47, Operand.tmp 48], argTypes := #[24, 3, 30] }, type := 25, pos := _, after := #[{ on := 3, ground := Ground.data }, { on := 15, ground := Ground.data }, { on := 16, ground := Ground.data }], guard := none }) rfl (fun K hK => ?_) AllReadyH.nil
      go_simp
      refine (dv_write_no D F1 G1 l _ _ HDz.out is _ 128 his).mono ?_
      rintro e w7 ⟨rfl, h1, h4⟩
      refine hK.out _ _ (HCz.out.trans (h4.mono (fun j _ e => by subst e; exact hFD))) (fun hHeld2 => ?_)
      clear hK K
      try simp only [Act.put, List.setIfInBounds_toArray, List.set_cons_zero, List.set_cons_succ]
      refine wpAnyH_take (i := 18) (oi := { dst := some 7, op := Op.assign (Operand.tmp 49), type := 25, pos := _, after := #[{ on := 17, ground := Ground.data }, { on := 17, ground := Ground.chain }, { on := 0, ground := Ground.phase }, { on := 1, ground := Ground.phase }, { on := 2, ground := Ground.phase }, { on := 3, ground := Ground.phase }, { on := 4, ground := Ground.phase }, { on := 5, ground := Ground.phase }, { on := 6, ground := Ground.phase }, { on := 7, ground := Ground.phase }, { on := 8, ground := Ground.phase }, { on := 9, ground := Ground.phase }, { on := 10, ground := Ground.phase }, { on := 11, ground := Ground.phase }, { on := 12, ground := Ground.phase }, { on := 13, ground := Ground.phase }, { on := 14, ground := Ground.phase }, { on := 15, ground := Ground.phase }, { on := 16, ground := Ground.phase }, { on := 17, ground := Ground.phase }], guard := none }) (v := ?_) rfl (by kernel_rfl) (by kernel_rfl) (by kernel_rfl) (fun _ _ _ h => h) (Or.inl ⟨by rfl, ?_⟩) (by assumption) ?_
      rotate_left
      · (intro w' hSw; (try dsimp only at hSw); clear hSw; go_simp; try with_reducible rfl)
      try simp only [Act.put, List.setIfInBounds_toArray, List.set_cons_zero, List.set_cons_succ]
      refine wpAnyH_done (by kernel_rfl) ?_ _
      have HS2 := hid (HS.out.step HB0.out h1 (fun i h => .inl h) (fun i h => .inl h) hHeld2 (fun e => by cases e))
      clear h1 h4
      go_wp2
      go_ret
      exact ⟨F1, G1, 0, l, _, true, HS2.out, .inr ⟨rfl, fun e => absurd (HS.out.ff e) (by decide), .inl ⟨rfl, last - first, fw1_take _ _ _ _ _ _ (Nat.le_refl _)⟩⟩⟩
    · have hf1 : f1 ≠ 0 := hf0
      go_wp2_with fail
      refine wp_region_held_drew (S := fun w' => Chg F1 wc w') (by kernel_rfl) (by exact (Chg.refl _ _).drew) (fun hHeld0 => ?_)
      refine wpAnyH_take (i := 0) (oi := { dst := some 32, op := Op.move (Operand.tmp 0), type := 59, pos := _, after := #[], guard := none }) (v := ?_) rfl (by kernel_rfl) (by kernel_rfl) (by kernel_rfl) (fun _ _ _ h => h) (Or.inl ⟨by rfl, ?_⟩) (by assumption) ?_
      rotate_left
      · (intro w' hSw; (try dsimp only at hSw); clear hSw; go_simp; try with_reducible rfl)
      try simp only [Act.put, List.setIfInBounds_toArray, List.set_cons_zero, List.set_cons_succ]
      refine wpAnyH_take (i := 1) (oi := { dst := some 33, op := Op.nilCheck (Operand.tmp 32), type := 0, pos := _, after := #[{ on := 0, ground := Ground.data }], guard := none }) (v := ?_) rfl (by kernel_rfl) (by kernel_rfl) (by kernel_rfl) (fun _ _ _ h => h) (Or.inl ⟨by rfl, ?_⟩) (by assumption) ?_
      rotate_left
      · (intro w' hSw; (try dsimp only at hSw); clear hSw; go_simp; try with_reducible rfl)
      try simp only [Act.put, List.setIfInBounds_toArray, List.set_cons_zero, List.set_cons_succ]
      refine wpAnyH_take (i := 2) (oi := { dst := some 34, op := Op.fieldAddr 80 (Operand.tmp 33) 0, type := 0, pos := _, after := #[{ on := 1, ground := Ground.data }], guard := none }) (v := ?_) rfl (by kernel_rfl) (by kernel_rfl) (by kernel_rfl) (fun _ _ _ h => h) (Or.inl ⟨by rfl, ?_⟩) (by assumption) ?_
      rotate_left
      · (intro w' hSw; (try dsimp only at hSw); clear hSw; go_simp; try with_reducible rfl)
      try simp only [Act.put, List.setIfInBounds_toArray, List.set_cons_zero, List.set_cons_succ]
      refine wpAnyH_take (i := 3) (oi := { dst := some 35, op := Op.load 24 (Operand.tmp 34), type := 24, pos := _, after := #[{ on := 2, ground := Ground.data }], guard := none }) (v := ?_) rfl (by kernel_rfl) (by kernel_rfl) (by kernel_rfl) (fun _ _ _ h => h) (Or.inl ⟨by rfl, ?_⟩) (by assumption) ?_
      rotate_left
      · (intro w' hSw; (try dsimp only at hSw); have q0 := (hSw.cell (p := ⟨R, 0, none⟩) hltR hnF).trans e0; clear hSw; go_simp; try with_reducible rfl)
      try simp only [Act.put, List.setIfInBounds_toArray, List.set_cons_zero, List.set_cons_succ]
      refine wpAnyH_take (i := 4) (oi := { dst := some 36, op := Op.move (Operand.tmp 0), type := 59, pos := _, after := #[], guard := none }) (v := ?_) rfl (by kernel_rfl) (by kernel_rfl) (by kernel_rfl) (fun _ _ _ h => h) (Or.inl ⟨by rfl, ?_⟩) (by assumption) ?_
      rotate_left
      · (intro w' hSw; (try dsimp only at hSw); clear hSw; go_simp; try with_reducible rfl)
      try simp only [Act.put, List.setIfInBounds_toArray, List.set_cons_zero, List.set_cons_succ]
      refine wpAnyH_take (i := 5) (oi := { dst := some 37, op := Op.nilCheck (Operand.tmp 36), type := 0, pos := _, after := #[{ on := 4, ground := Ground.data }], guard := none }) (v := ?_) rfl (by kernel_rfl) (by kernel_rfl) (by kernel_rfl) (fun _ _ _ h => h) (Or.inl ⟨by rfl, ?_⟩) (by assumption) ?_
      rotate_left
      · (intro w' hSw; (try dsimp only at hSw); clear hSw; go_simp; try with_reducible rfl)
      try simp only [Act.put, List.setIfInBounds_toArray, List.set_cons_zero, List.set_cons_succ]
      refine wpAnyH_take (i := 6) (oi := { dst := some 38, op := Op.fieldAddr 80 (Operand.tmp 37) 1, type := 0, pos := _, after := #[{ on := 5, ground := Ground.data }], guard := none }) (v := ?_) rfl (by kernel_rfl) (by kernel_rfl) (by kernel_rfl) (fun _ _ _ h => h) (Or.inl ⟨by rfl, ?_⟩) (by assumption) ?_
      rotate_left
      · (intro w' hSw; (try dsimp only at hSw); clear hSw; go_simp; try with_reducible rfl)
      try simp only [Act.put, List.setIfInBounds_toArray, List.set_cons_zero, List.set_cons_succ]
      refine wpAnyH_take (i := 7) (oi := { dst := some 39, op := Op.load 3 (Operand.tmp 38), type := 3, pos := _, after := #[{ on := 6, ground := Ground.data }], guard := none }) (v := ?_) rfl (by kernel_rfl) (by kernel_rfl) (by kernel_rfl) (fun _ _ _ h => h) (Or.inl ⟨by rfl, ?_⟩) (by assumption) ?_
      rotate_left
      · (intro w' hSw; (try dsimp only at hSw); have q0 := (hSw.cell (p := ⟨R, 1, none⟩) hltR hnF).trans e1; clear hSw; go_simp; try with_reducible rfl)
      try simp only [Act.put, List.setIfInBounds_toArray, List.set_cons_zero, List.set_cons_succ]
      refine wpAnyH_take (i := 8) (oi := { dst := some 40, op := Op.move (Operand.tmp 4), type := 3, pos := _, after := #[], guard := none }) (v := ?_) rfl (by kernel_rfl) (by kernel_rfl) (by kernel_rfl) (fun _ _ _ h => h) (Or.inl ⟨by rfl, ?_⟩) (by assumption) ?_
      rotate_left
      · (intro w' hSw; (try dsimp only at hSw); clear hSw; go_simp; try with_reducible rfl)
      try simp only [Act.put, List.setIfInBounds_toArray, List.set_cons_zero, List.set_cons_succ]
      refine wpAnyH_take (i := 9) (oi := { dst := some 41, op := Op.binOp BinOp.add 3 (Operand.tmp 40) (Operand.const (Value.int IntKind.i64 1)) 3, type := 3, pos := _, after := #[{ on := 8, ground := Ground.data }], guard := none }) (v := ?_) rfl (by kernel_rfl) (by kernel_rfl) (by kernel_rfl) (fun _ _ _ h => h) (Or.inl ⟨by rfl, ?_⟩) (by assumption) ?_
      rotate_left
      · (intro w' hSw; (try dsimp only at hSw); clear hSw; go_simp; try with_reducible rfl)
      try simp only [Act.put, List.setIfInBounds_toArray, List.set_cons_zero, List.set_cons_succ]
      refine wpAnyH_take (i := 10) (oi := { dst := some 42, op := Op.move (Operand.tmp 0), type := 59, pos := _, after := #[], guard := none }) (v := ?_) rfl (by kernel_rfl) (by kernel_rfl) (by kernel_rfl) (fun _ _ _ h => h) (Or.inl ⟨by rfl, ?_⟩) (by assumption) ?_
      rotate_left
      · (intro w' hSw; (try dsimp only at hSw); clear hSw; go_simp; try with_reducible rfl)
      try simp only [Act.put, List.setIfInBounds_toArray, List.set_cons_zero, List.set_cons_succ]
      refine wpAnyH_take (i := 11) (oi := { dst := some 43, op := Op.nilCheck (Operand.tmp 42), type := 0, pos := _, after := #[{ on := 10, ground := Ground.data }], guard := none }) (v := ?_) rfl (by kernel_rfl) (by kernel_rfl) (by kernel_rfl) (fun _ _ _ h => h) (Or.inl ⟨by rfl, ?_⟩) (by assumption) ?_
      rotate_left
      · (intro w' hSw; (try dsimp only at hSw); clear hSw; go_simp; try with_reducible rfl)
      try simp only [Act.put, List.setIfInBounds_toArray, List.set_cons_zero, List.set_cons_succ]
      refine wpAnyH_take (i := 12) (oi := { dst := some 44, op := Op.fieldAddr 80 (Operand.tmp 43) 2, type := 0, pos := _, after := #[{ on := 11, ground := Ground.data }], guard := none }) (v := ?_) rfl (by kernel_rfl) (by kernel_rfl) (by kernel_rfl) (fun _ _ _ h => h) (Or.inl ⟨by rfl, ?_⟩) (by assumption) ?_
      rotate_left
      · (intro w' hSw; (try dsimp only at hSw); have q0 := (hSw.cell (p := ⟨R, 2, none⟩) hltR hnF).trans e2; clear hSw; go_simp; try with_reducible rfl)
      try simp only [Act.put, List.setIfInBounds_toArray, List.set_cons_zero, List.set_cons_succ]
      refine wpAnyH_take (i := 13) (oi := { dst := some 45, op := Op.load 3 (Operand.tmp 44), type := 3, pos := _, after := #[{ on := 12, ground := Ground.data }], guard := none }) (v := ?_) rfl (by kernel_rfl) (by kernel_rfl) (by kernel_rfl) (fun _ _ _ h => h) (Or.inl ⟨by rfl, ?_⟩) (by assumption) ?_
      rotate_left
      · (intro w' hSw; (try dsimp only at hSw); have q0 := (hSw.cell (p := ⟨R, 2, none⟩) hltR hnF).trans e2; clear hSw; go_simp; try with_reducible rfl)
      try simp only [Act.put, List.setIfInBounds_toArray, List.set_cons_zero, List.set_cons_succ]
      refine wpAnyH_take (i := 14) (oi := { dst := some 46, op := Op.binOp BinOp.rem 3 (Operand.tmp 41) (Operand.tmp 45) 3, type := 3, pos := _, after := #[{ on := 9, ground := Ground.data }, { on := 13, ground := Ground.data }], guard := none }) (v := ?_) rfl (by kernel_rfl) (by kernel_rfl) (by kernel_rfl) (fun _ _ _ h => h) (Or.inl ⟨by rfl, ?_⟩) (by assumption) ?_
      rotate_left
      · (intro w' hSw; (try dsimp only at hSw); clear hSw; go_simp; try with_reducible rfl)
      try simp only [Act.put, List.setIfInBounds_toArray, List.set_cons_zero, List.set_cons_succ]
      refine wpAnyH_take (i := 15) (oi := { dst := some 47, op := Op.binOp BinOp.add 3 (Operand.tmp 39) (Operand.tmp 46) 3, type := 3, pos := _, after := #[{ on := 7, ground := Ground.data }, { on := 14, ground := Ground.data }], guard := none }) (v := ?_) rfl (by kernel_rfl) (by kernel_rfl) (by kernel_rfl) (fun _ _ _ h => h) (Or.inl ⟨by rfl, ?_⟩) (by assumption) ?_
      rotate_left
      · (intro w' hSw; (try dsimp only at hSw); clear hSw; go_simp; try with_reducible rfl)
      try simp only [Act.put, List.setIfInBounds_toArray, List.set_cons_zero, List.set_cons_succ]
      refine wpAnyH_ready (rs := [16]) (by kernel_rfl) (by simp) ?_
      refine AllReadyH.cons (o := { dst := some 48, op := Op.makeSlice 30 (Operand.const (Value.int IntKind.i64 128)) (Operand.const (Value.int IntKind.i64 128)), type := 30, pos := _, after := #[], guard := none }) rfl (fun K hK => ?_) AllReadyH.nil
      go_simp
      refine hK.out _ _ (HCz.out) (fun hHeld1 => ?_)
      clear hK K
      try simp only [Act.put, List.setIfInBounds_toArray, List.set_cons_zero, List.set_cons_succ]
      refine wpAnyH_ready (rs := [17]) (by kernel_rfl) (by simp) ?_
      refine AllReadyH.cons (o := { dst := some 49, op := Op.call { callee := Callee.value (Operand.func 12), args := #[Operand.tmp 35, Operand.tmp 47, Operand.tmp 48], argTypes := #[24, 3, 30] }, type := 25, pos := _, after := #[{ on := 3, ground := Ground.data }, { on := 15, ground := Ground.data }, { on := 16, ground := Ground.data }], guard := none }) rfl (fun K hK => ?_) AllReadyH.nil
      go_simp
      refine (dv_write_ok D F1 G1 l _ f1 _ HDz.out is _ 128 zeros his hf1 HRz.out hAz.out hWl.out).mono ?_
      rintro e w7 ⟨rfl, F2, G2, h1, h2, h3, h4⟩
      refine hK.out _ _ (HCz.out.trans' h4 (fun j _ hj => hj)) (fun hHeld2 => ?_)
      clear hK K
      try simp only [Act.put, List.setIfInBounds_toArray, List.set_cons_zero, List.set_cons_succ]
      refine wpAnyH_take (i := 18) (oi := { dst := some 7, op := Op.assign (Operand.tmp 49), type := 25, pos := _, after := #[{ on := 17, ground := Ground.data }, { on := 17, ground := Ground.chain }, { on := 0, ground := Ground.phase }, { on := 1, ground := Ground.phase }, { on := 2, ground := Ground.phase }, { on := 3, ground := Ground.phase }, { on := 4, ground := Ground.phase }, { on := 5, ground := Ground.phase }, { on := 6, ground := Ground.phase }, { on := 7, ground := Ground.phase }, { on := 8, ground := Ground.phase }, { on := 9, ground := Ground.phase }, { on := 10, ground := Ground.phase }, { on := 11, ground := Ground.phase }, { on := 12, ground := Ground.phase }, { on := 13, ground := Ground.phase }, { on := 14, ground := Ground.phase }, { on := 15, ground := Ground.phase }, { on := 16, ground := Ground.phase }, { on := 17, ground := Ground.phase }], guard := none }) (v := ?_) rfl (by kernel_rfl) (by kernel_rfl) (by kernel_rfl) (fun _ _ _ h => h) (Or.inl ⟨by rfl, ?_⟩) (by assumption) ?_
      rotate_left
      · (intro w' hSw; (try dsimp only at hSw); clear hSw; go_simp; try with_reducible rfl)
      try simp only [Act.put, List.setIfInBounds_toArray, List.set_cons_zero, List.set_cons_succ]
      refine wpAnyH_done (by kernel_rfl) ?_ _
      have HS2 := hid (HS.out.step HB0.out h1 (fun i hi => (h2 i hi).imp id (fun h => by have := HCz.out.size; omega)) (fun i hi => (h3 i hi).imp id (fun h => by have := HCz.out.size; omega)) hHeld2 (fun e => burnt_neg e))
      have hWe : fw all q.fr q.n first (last - first) ++ [(is, zeros)] = fw1 all q.fr q.n first last := by rw [His.out]; rfl
      rw [hWe] at HS2
      have hWl2 : Hid ((fw1 all q.fr q.n first last).length ≤ 1000000) := hid (by rw [← hWe, List.length_append, fw_length]; simp; omega)
      have hff : Hid (f = -1 → f1 = -1) := hid HS.out.ff
      clear h1 h2 h3 h4 hWe hHeld0 hHeld1 hHeld2 HS HDz HCz HRz hAz e0 e1 e2 hv1 hv2 hv3 his
      obtain ⟨f2, hf2⟩ : ∃ f2, f2 = burnt f1 := ⟨_, rfl⟩
      rw [← hf2] at HS2
      have hff2 : Hid (f = -1 → f2 = -1) := hid HS2.out.ff
      clear hf2 hff hf0 hf1
      obtain ⟨A7, c7, H7, e0, _⟩ := HS2.out.mem.cells
      by_cases hg0 : f2 = 0
      · as_aux_lemma =>
        subst hg0
        have hsy := hid (dv_sync_no D F2 G2 l _ w7 HS2.out.dv)
        have hFD2 := HS2.out.dv.lt.2.2
        go_wp2_with fail
        refine hsy.out.mono ?_
        rintro e w8 ⟨rfl, h1, h4⟩
        have HS3 := hid (HS2.out.step HB0.out h1 (fun i h => .inl h) (fun i h => .inl h) (h4.mono (fun j _ e => by subst e; exact hFD2)) (fun e => by cases e))
        clear h1 h4 hsy
        go_wp2
        go_ret
        exact ⟨F2, G2, 0, l, _, true, HS3.out, .inr ⟨rfl, fun e => absurd (hff2.out e) (by decide), .inl ⟨rfl, (fw1 all q.fr q.n first last).length, (List.take_length).symm⟩⟩⟩
      · have hsy := hid (dv_sync_ok D F2 G2 l _ f2 w7 HS2.out.dv hg0 hWl2.out)
        go_wp2_with fail
        refine hsy.out.mono ?_
        rintro e w8 ⟨rfl, h1, h4⟩
        have HS3 := hid (HS2.out.step HB0.out h1 (fun i h => .inl h) (fun i h => .inl h) h4 (fun e => burnt_neg e))
        obtain ⟨l2, hl2⟩ : ∃ l2, l2 = applyW l (fw1 all q.fr q.n first last) := ⟨_, rfl⟩
        obtain ⟨f3, hf3⟩ : ∃ f3, f3 = burnt f2 := ⟨_, rfl⟩
        rw [← hl2, ← hf3] at HS3
        have hll2 : l2.length = l.length := by rw [hl2, applyW_length]
        have Hl2 := hid hl2
        clear h1 h4 hsy hf3 hg0 hl2 hff2 HS2 H7 e0 hWl2
        by_cases hg0 : f3 = 0
        · as_aux_lemma =>
          subst hg0
          have hwr := hid (rwrite_no R D F2 G2 B q l2 _ w8 HS3.out.mem HS3.out.dv HS3.out.dis (by omega) (by omega) (by omega) (by simp) all HALL.out htot first hbf (by omega) hbl)
          go_wp2_with fail
          refine hwr.out.mono ?_
          rintro e w9 ⟨rfl, h1, h4⟩
          have HS4 := hid (HS3.out.step HB0.out h1 (fun i h => .inl h) (fun i h => .inl h) h4 (fun e => by cases e))
          clear h1 h4 hwr
          go_wp2
          go_ret
          exact ⟨F2, G2, 0, l2, _, true, HS4.out, .inr ⟨rfl, fun e => absurd (HS3.out.ff e) (by decide), .inr ⟨Hl2.out, .inl rfl⟩⟩⟩
        · have hwr := hid (rwrite_ok R D F2 G2 B q l2 _ f3 w8 HS3.out.mem HS3.out.dv HS3.out.dis (by omega) (by omega) (by omega) (by simp) all HALL.out htot first hbf (by omega) hbl hg0)
          go_wp2_with fail
          refine hwr.out.mono ?_
          rintro e w9 ⟨rfl, F3, G3, h1, h2, h3, h4⟩
          have HS4 := hid (HS3.out.step HB0.out h1 h2 h3 h4 (fun e => burnt_neg e))
          obtain ⟨f4, hf4⟩ : ∃ f4, f4 = burnt f3 := ⟨_, rfl⟩
          rw [← hf4] at HS4
          have hWe : ([] : List (Nat × List UInt8)) ++ [(q.fr + first % q.n, secOf all first)] = fw2 all q.fr q.n first := rfl
          rw [hWe] at HS4
          clear h1 h2 h3 h4 hwr hf4 hg0 hWe HS3
          obtain ⟨A7, c7, H7, e0, _⟩ := HS4.out.mem.cells
          by_cases hg0 : f4 = 0
          · as_aux_lemma =>
            subst hg0
            have hsy := hid (dv_sync_no D F3 G3 l2 _ w9 HS4.out.dv)
            have hFD2 := HS4.out.dv.lt.2.2
            go_wp2_with fail
            refine hsy.out.mono ?_
            rintro e w10 ⟨rfl, h1, h4⟩
            have HS5 := hid (HS4.out.step HB0.out h1 (fun i h => .inl h) (fun i h => .inl h) (h4.mono (fun j _ e => by subst e; exact hFD2)) (fun e => by cases e))
            clear h1 h4 hsy
            go_wp2
            go_ret
            exact ⟨F3, G3, 0, l2, _, true, HS5.out, .inr ⟨rfl, fun e => absurd (HS4.out.ff e) (by decide), .inr ⟨Hl2.out, .inr rfl⟩⟩⟩
          · as_aux_lemma =>
            have hsy := hid (dv_sync_ok D F3 G3 l2 _ f4 w9 HS4.out.dv hg0 (by simp [fw2]))
            go_wp2_with fail
            refine hsy.out.mono ?_
            rintro e w10 ⟨rfl, h1, h4⟩
            have HS5 := hid (HS4.out.step HB0.out h1 (fun i h => .inl h) (fun i h => .inl h) h4 (fun e => burnt_neg e))
            clear h1 h4 hsy
            go_wp2
            go_ret
            exact ⟨F3, G3, _, _, [], false, HS5.out, .inl ⟨rfl, rfl, by rw [Hl2.out], rfl⟩⟩
end Go.Proofs.Ytjmcjbmnggecgaa
