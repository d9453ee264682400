/- A page in memory, and the walks of trim, room, record, has. Conditions: sizes. -/
import Derived.Test.YtpdikmkhkiplbaaMem
import Derived.Test.YtpdikmkhkiplbaaPag
import Derived.ScopeJumps
import Derived.WalkMore
import Derived.Lib.SliceRun
namespace Go.Proofs.Ytpdikmkhkiplbaa
open Go.RowKit
set_option maxRecDepth 100000
set_option linter.unusedVariables false
set_option linter.unusedSimpArgs false

theorem info5 : (Try.prog.info? 5).map (fun i => (i.zero, i.size, i.bytes)) = some (some (.int .u8 0), 1, 1) := by kernel_rfl
theorem info23 : (Try.prog.info? 23).map (fun i => (i.zero, i.size, i.bytes)) = some (some (.slice none 0 0), 1, 24) := by kernel_rfl

/-- a row of a call's own making, from the first cell of a block on -/
structure NewRow (base : Nat) (w : World) (t : TypeId) (size : Nat) (A : Option Addr) (n : Nat) (xs : List Value) : Prop where
  rd : Rd w size A n xs
  at_ : ∀ ad, A = some ad → ∃ g cs, ad = ⟨g, 0, none⟩ ∧ base ≤ g ∧ Blk w g t cs

section
variable {base size n c : Nat} {w w' : World} {t : TypeId} {A : Option Addr} {xs : List Value} {S : Nat → Prop}
theorem NewRow.of_own (h : w.ownsRow base t size (.slice A n c) n xs) : NewRow base w t size A n xs := by
  refine ⟨Rd.of_own h, fun ad e => ?_⟩
  rcases h.2 with ⟨h', _⟩ | ⟨g, cap, cur, h', hb, hh, _⟩
  · injection h' with h'; subst h'; cases e
  · injection h' with h'
    subst h'
    injection e with e
    subst e
    exact ⟨g, cur, rfl, hb, hh⟩
theorem NewRow.chg (h : NewRow base w t size A n xs) (hc : Chg S w w') (hA : ∀ ad, A = some ad → ¬ S ad.block) : NewRow base w' t size A n xs :=
  ⟨h.rd.chg hc hA, fun ad e => by obtain ⟨g, cs, rfl, hb, hk⟩ := h.at_ ad e; exact ⟨g, cs, rfl, hb, hk.chg hc (hA _ e)⟩⟩
theorem NewRow.below (h : NewRow base w t size A n xs) (hb : Below w.heap.size w w') : NewRow base w' t size A n xs := h.chg (S := fun _ => False) (Chg.of_below hb) (fun _ _ h => h)
/-- another block's type tells it apart -/
theorem NewRow.chg_ty (h : NewRow base w t size A n xs) (hc : Chg S w w') (hS : ∀ g, S g → ∀ cs, ¬ Blk w g t cs) : NewRow base w' t size A n xs :=
  h.chg hc fun ad e hs => by obtain ⟨g, cs, rfl, _, hk⟩ := h.at_ ad e; exact hS g hs cs hk
theorem NewRow.mono {base' : Nat} (h : NewRow base w t size A n xs) (hb : base' ≤ base) : NewRow base' w t size A n xs :=
  ⟨h.rd, fun ad e => by obtain ⟨g, cs, rfl, hg, hk⟩ := h.at_ ad e; exact ⟨g, cs, rfl, by omega, hk⟩⟩
end

section
variable {B : Nat} {w : World} {n c : Nat} {A : Option Addr}
theorem sl_from {xs : List Value} (hr : Rd w 1 A n xs) (hf : ∀ ad, A = some ad → ad.block < B) (k : Nat) (i : Int) (hi : i = (k : Int)) (hk : k ≤ n) (hc : n ≤ c) :
    ∃ A', (∀ W : World, (Instr.slice 23 (.slice A n c) (some (.int .i64 i)) none none).run Try.prog W = .ok (.slice A' (n - k) (c - k)) W) ∧ (∀ ad, A' = some ad → ad.block < B) ∧ Rd w 1 A' (n - k) (xs.drop k) := by
  subst hi
  obtain ⟨i0, hi, hz0, hz1, hz2⟩ := info_parts info5
  have hl := hr.1
  refine ⟨if c = k then A else A.map (·.add k), fun W => ?_, fun ad e => ?_, ?_, fun hn => ?_⟩
  · have hk' : (k : Int) ≤ (n : Int) := by omega
    simp [Instr.slice, Instr.sliceBounds, Instr.sliceBound, asIntOf, run_underlying Try.underlying23, sizeOf, typeInfo, hi, hz1, hk']
    intro hc'; omega
  · split at e
    · exact hf ad e
    · cases A with
      | none => simp at e
      | some a => simp at e; subst e; rw [block_of_add]; exact hf a rfl
  · simp; omega
  · obtain ⟨ad, rfl, hlt, hcs⟩ := hr.2 (by omega)
    rw [if_neg (by omega)]
    refine ⟨ad.add k, rfl, by rw [block_of_add]; exact hlt, fun j u hu => ?_⟩
    rw [add_of_add]
    exact hcs _ u (by simpa using hu)
theorem sl_to {xs : List Value} (hr : Rd w 1 A n xs) (k : Nat) (i : Int) (hi : i = (k : Int)) (hk : k ≤ n) (hc : n ≤ c) :
    (∀ W : World, (Instr.slice 23 (.slice A n c) none (some (.int .i64 i)) none).run Try.prog W = .ok (.slice A k c) W) ∧ Rd w 1 A k (xs.take k) := by
  subst hi
  obtain ⟨i0, hi, hz0, hz1, hz2⟩ := info_parts info5
  have hl := hr.1
  refine ⟨fun W => ?_, ?_, fun hn => ?_⟩
  · have hk' : (k : Int) ≤ (c : Int) := by omega
    have e : (A.map fun x => x.add 0) = A := by cases A with
      | none => rfl
      | some a => simp [Addr.add]
    simp [Instr.slice, Instr.sliceBounds, Instr.sliceBound, asIntOf, run_underlying Try.underlying23, sizeOf, typeInfo, hi, hz1, hk', e]
    intro hc'; omega
  · simp; omega
  · obtain ⟨ad, rfl, hlt, hcs⟩ := hr.2 (by omega)
    refine ⟨ad, rfl, hlt, fun j u hu => hcs j u ?_⟩
    rw [List.getElem?_take] at hu
    split at hu
    · exact hu
    · cases hu
theorem sl_full {t e : TypeId} {i : TypeInfo} (ht : Try.prog.underlying t = some (.slice e)) (hi : Try.prog.info? e = some i) (A : Option Addr) (k c : Nat) (hk : k ≤ c) (W : World) :
    (Instr.slice t (.slice A k c) none (some (.int .i64 (k : Int))) (some (.int .i64 (k : Int)))).run Try.prog W = .ok (.slice A k k) W := by
  have hk' : (k : Int) ≤ (c : Int) := by omega
  have e : (A.map fun x => x.add 0) = A := by cases A with
    | none => rfl
    | some a => simp [Addr.add]
  simp [Instr.slice, Instr.sliceBounds, Instr.sliceBound, asIntOf, run_underlying ht, sizeOf, typeInfo, hi, hk', e]
  intro hc'; omega

end

/-! ### a scope whose jumps all go forward to one label: the code behind the label is walked on where the jump is made -/
theorem wp_scope_forward {P : Program} {a : Act} {w : World} {Q : Exit → Act → World → Prop} {c rest : Code} (l : Nat) (hf : findLabel c l = some rest)
    (first : c.wp P (Exit.jump l (fun a w => rest.wp P (Exit.noGoto Q) a w) Q) a w) : (Code.scope c).wp P Q a w :=
  wp_scope_jumps l (fun a w => rest.wp P (Exit.noGoto Q) a w) (fun _ _ => 0) hf first fun a w hJ => Code.wp_mono (fun e a w h => by
    cases e with
    | goto l' => exact h.elim
    | normal => exact h
    | exit id => exact h
    | ret => exact h
    | panic ch => exact h
    | outgrown => exact h) hJ
theorem jump_ret {l : Nat} {J : Act → World → Prop} {Q : Exit → Act → World → Prop} {a : Act} {w : World} : Exit.jump l J Q .ret a w = Q .ret a w := rfl


theorem below_call {B : Nat} {w wr wd w' : World} (h : Below B w wr) (hq : Below wd.heap.size wd w') (h1 : wd.heap = wr.heap) (h2 : wd.os = wr.os) (h3 : wd.tape = wr.tape) (h4 : wd.output = wr.output) (hB : B ≤ wr.heap.size) : Below B w w' := by
  refine h.trans ⟨hq.os.trans h2, hq.tape.trans h3, hq.output.trans h4, by rw [← h1]; exact hq.size, fun k hk => ?_⟩
  have := hq.block k (by rw [h1]; omega)
  rw [this, h1]

/-! ### a page in memory -/
/-- a slot's value: nil, or new bytes -/
def ElemAt (B : Nat) (w : World) (v : Value) : Option (List UInt8) → Prop
  | none => v = .slice none 0 0
  | some r => ∃ g c, v = .slice (some ⟨g, 0, none⟩) r.length c ∧ r.length ≤ c ∧ NewRow B w 5 1 (some ⟨g, 0, none⟩) r.length (u8s r)
/-- a row of slots -/
def RowAt (B : Nat) (w : World) (lv : Value) (l : Recs) : Prop :=
  ∃ ls, w.ownsRow B 23 1 lv l.length ls ∧ ∀ (i : Nat) x, l[i]? = some x → ∃ v, ls[i]? = some v ∧ ElemAt B w v x
structure PgAt (B : Nat) (wr : World) (P : Nat) (q : MPage) : Prop where
  lp : B ≤ P
  mem : ∃ lv, Blk wr P 55 #[.int .i64 q.next, lv] ∧ RowAt B wr lv q.l

section
variable {B : Nat} {w w' : World} {v lv : Value} {x : Option (List UInt8)} {l : Recs} {S : Nat → Prop} {P : Nat} {q : MPage}
theorem ElemAt.chg (h : ElemAt B w v x) (hc : Chg S w w') (hS : ∀ g, S g → ∀ cs, ¬ Blk w g 5 cs) : ElemAt B w' v x := by
  cases x with
  | none => exact h
  | some r => obtain ⟨g, c, rfl, hl, hn⟩ := h; exact ⟨g, c, rfl, hl, hn.chg_ty hc hS⟩
theorem RowAt.chg (h : RowAt B w lv l) (hc : Chg S w w') (hS : ∀ g, S g → ∀ cs, ¬ Blk w g 5 cs) (h2 : ∀ g, lv.ownBlock = some g → ¬ S g) : RowAt B w' lv l := by
  obtain ⟨ls, ho, hv⟩ := h
  exact ⟨ls, own_chg ho hc h2, fun i x hx => by obtain ⟨v, hl, he⟩ := hv i x hx; exact ⟨v, hl, he.chg hc hS⟩⟩
theorem PgAt.fresh (h : PgAt B w P q) (hb : Below w.heap.size w w') : PgAt B w' P q := by
  obtain ⟨lp, lv, hb', hr⟩ := h
  exact ⟨lp, lv, hb'.below hb hb'.lt, hr.chg (S := fun _ => False) (Chg.of_below hb) (fun _ h => h.elim) (fun _ _ h => h)⟩
theorem PgAt.alloc (h : PgAt B w P q) (o : Obj) : PgAt B (w.alloc o) P q := h.fresh ((Below.refl _ _).alloc (Nat.le_refl _) _)
theorem RowAt.form (h : RowAt B w lv l) : ∃ A c, lv = .slice A l.length c ∧ l.length ≤ c := by
  obtain ⟨ls, ho, _⟩ := h
  obtain ⟨A, c, rfl, _⟩ := own_form ho
  refine ⟨A, c, rfl, ?_⟩
  rcases ho.2 with ⟨h', h0⟩ | ⟨g, cap, cur, h', _, _, hle, _⟩
  · omega
  · injection h' with _ _ h'; omega
/-- a slot's cell -/
theorem RowAt.cell {A : Option Addr} {n c : Nat} (h : RowAt B w (.slice A n c) l) (i : Nat) (hi : i < l.length) : ∃ g v, A = some ⟨g, 0, none⟩ ∧ B ≤ g ∧ w.cell? ⟨g, i, none⟩ = some v ∧ w.frozen? ⟨g, i, none⟩ = false ∧ ElemAt B w v (l[i]'hi) := by
  obtain ⟨ls, ho, hv⟩ := h
  obtain ⟨v, hl, he⟩ := hv i _ (List.getElem?_eq_getElem hi)
  rcases ho.2 with ⟨h', h0⟩ | ⟨g, cap, cur, h', hb, hh, hle, hm, hsz, htk⟩
  · omega
  · injection h' with h' _ _
    refine ⟨g, v, h', hb, ?_, frozen_of_row w g i cur 23 hh, he⟩
    rw [cell_of_row w g i cur 23 (0, 0) hh]
    have : (cur.toList.take (l.length * 1))[i]? = some v := by rw [htk]; exact hl
    rw [List.getElem?_take] at this
    split at this
    · simpa using this
    · cases this
/-- the row is cut -/
theorem RowAt.cut {A : Option Addr} {n c : Nat} {a : Recs} {x : Option (List UInt8)} (h : RowAt B w (.slice A n c) (a ++ [x])) : RowAt B w (.slice A a.length c) a := by
  obtain ⟨ls, ho, hv⟩ := h
  refine ⟨ls.take a.length, ⟨by have := ho.1; simp at this ⊢; omega, ?_⟩, fun i y hy => ?_⟩
  · rcases ho.2 with ⟨h', h0⟩ | ⟨g, cap, cur, h', hb, hh, hle, hm, hsz, htk⟩
    · simp at h0
    · injection h' with h1 h2 h3
      subst h1
      refine .inr ⟨g, cap, cur, by rw [h3], hb, hh, by simp at hle; omega, hm, hsz, ?_⟩
      rw [← htk, List.take_take]
      congr 1
      simp
  · have hi := (List.getElem?_eq_some_iff.1 hy).1
    obtain ⟨v, hl, he⟩ := hv i y (by rw [List.getElem?_append_left hi]; exact hy)
    exact ⟨v, by rw [List.getElem?_take, if_pos hi]; exact hl, he⟩
end

theorem sl_rows {A : Option Addr} (k : Nat) (i : Int) (hi : i = (k : Int)) (n c : Nat) (hk : k ≤ c) (W : World) : (Instr.slice 22 (.slice A n c) none (some (.int .i64 i)) none).run Try.prog W = .ok (.slice A k c) W := by
  subst hi
  obtain ⟨i0, hi, hz0, hz1, hz2⟩ := info_parts info23
  have hk' : (k : Int) ≤ (c : Int) := by omega
  have e : (A.map fun x => x.add 0) = A := by cases A with
    | none => rfl
    | some a => simp [Addr.add]
  simp [Instr.slice, Instr.sliceBounds, Instr.sliceBound, asIntOf, run_underlying Try.underlying22, sizeOf, typeInfo, hi, hz1, hk', e]
  intro hc'; omega

/-- a store into the page's own box -/
theorem PgAt.setL {B : Nat} {w : World} {P : Nat} {q : MPage} {lv lv' : Value} {l' : Recs} (hl : B ≤ P) (hb : Blk w P 55 #[.int .i64 q.next, lv]) (hr : RowAt B w lv' l') (h2 : ∀ g, lv'.ownBlock = some g → g ≠ P) :
    PgAt B (w.setCell ⟨P, 1, none⟩ lv') P ⟨q.next, l'⟩ := by
  refine ⟨hl, lv', by have := hb.set_ 1 lv'; simpa using this, hr.chg (chg_set P 1 lv') ?_ (fun g hg => h2 g hg)⟩
  rintro g rfl cs hk
  exact hk.ne_ hb (by decide) rfl
theorem RowAt.ne {B : Nat} {w : World} {lv : Value} {l : Recs} {P : Nat} {cs : Array Value} (h : RowAt B w lv l) (hb : Blk w P 55 cs) : ∀ g, lv.ownBlock = some g → g ≠ P := by
  rintro g hg rfl
  obtain ⟨ls, ho, _⟩ := h
  obtain ⟨cs', hk⟩ := own_ty ho hg
  exact hk.ne_ hb (by decide) rfl

set_option maxHeartbeats 1600000 in
theorem trim_any (B P : Nat) (q : MPage) (w : World) (h : PgAt B w P q) (hl : q.l.length ≤ 1000) :
    Calls Try.prog 43 #[.pointer (some ⟨P, 0, none⟩)] w fun e w' => e = .returned (.tuple #[]) ∧ PgAt B w' P ⟨q.next, trim q.l⟩ ∧ Chg (· = P) w w' := by
  have H := hid h
  obtain ⟨lp, lv, hb, hr⟩ := h
  obtain ⟨A, c, rfl, hlc⟩ := hr.form
  have c1 : w.cell? ⟨P, 1, none⟩ = some (.slice A q.l.length c) := hb.cell_ 1 rfl
  clear hb hr
  go_enter Try.func43, Try.ntmps43
  go_wp2_with fail
  go_loopw [2] (fun n wr => ∃ a : Recs, n = .int .i64 a.length ∧ a.length ≤ 1000 ∧ PgAt B wr P ⟨q.next, a⟩ ∧ trim a = trim q.l ∧ Chg (· = P) w wr) (fun n _ => (intOf n).toNat)
  case atStart => exact ⟨q.l, rfl, hl, H.out, rfl, Chg.refl _ _⟩
  case round =>
    obtain ⟨a, rfl, hal, hp, ht, hc⟩ := hrel
    have HP := hid hp
    have HT := hid ht
    have HC := hid hc
    obtain ⟨_, lv, hb, hr⟩ := hp
    obtain ⟨A1, c1', rfl, hlc1⟩ := hr.form
    have d1 : wr.cell? ⟨P, 1, none⟩ = some (.slice A1 a.length c1') := hb.cell_ 1 rfl
    have f1 := hb.frozen 1
    clear ht hc
    rcases snoc_cases a with rfl | ⟨b, rfl⟩ | ⟨b, r, rfl⟩
    · clear hr hb
      go_wp2
      go_end0
      exact ⟨rfl, by have := HP.out; rw [← HT.out]; exact this, HC.out⟩
    · obtain ⟨g, v, rfl, hg, hcell, hfz, he⟩ := hr.cell b.length (by simp)
      have hv : v = .slice none 0 0 := by
        have : ElemAt B wr v none := by simpa using he
        exact this
      subst hv
      have hlen : (b ++ [none] : Recs).length = b.length + 1 := by simp
      have hrc := hid hr.cut
      have hne := hid (hr.ne hb)
      have HB := hid hb
      have hln := hid hlen
      rw [hlen] at d1 hlc1 ⊢
      have hsl := sl_rows (A := some ⟨g, 0, none⟩) b.length (b.length : Int) rfl (b.length + 1) c1' (by omega)
      have hbl : b.length ≤ 1000 := by omega
      have heq : ∀ W : World, (binOp .eql 23 (.slice none 0 0) (.slice none 0 0)).run Try.prog W = .ok (.bool true) W := fun W => Lib.run_eql_slice_nil (P := Try.prog) W 23 5 none 0 0 0 0 Try.underlying23
      clear hr hb he hlen hal
      go_wp2
      go_roundw
      case rel =>
        refine ⟨b, by go_num, by omega, ?_, by rw [← HT.out, trim_none], HC.out.trans (chg_set P 1 _)⟩
        exact PgAt.setL (q := q) HP.out.lp HB.out hrc.out (fun g' hg' => hne.out g' (by simpa [Value.ownBlock] using hg'))
      case measure => simp [intOf]
    · obtain ⟨g, v, rfl, hg, hcell, hfz, he⟩ := hr.cell b.length (by simp)
      have he' : ElemAt B wr v (some r) := by simpa using he
      obtain ⟨g2, c2, rfl, hrc, _⟩ := he'
      have hlen : (b ++ [some r] : Recs).length = b.length + 1 := by simp
      have heq : ∀ W : World, (binOp .eql 23 (.slice (some ⟨g2, 0, none⟩) r.length c2) (.slice none 0 0)).run Try.prog W = .ok (.bool false) W := fun W => Lib.run_eql_slice_nil (P := Try.prog) W 23 5 (some ⟨g2, 0, none⟩) r.length c2 0 0 Try.underlying23
      have Hlen := hid hlen
      rw [hlen] at d1 ⊢
      have hbl : b.length ≤ 1000 := by omega
      clear hr hb he hlen hal
      go_wp2
      go_end0
      refine ⟨rfl, ?_, HC.out⟩
      have := HP.out
      rw [trim_some] at HT
      rw [← HT.out]
      exact this

theorem ElemAt.form {B : Nat} {w : World} {v : Value} {x : Option (List UInt8)} (h : ElemAt B w v x) : ∃ A c, v = .slice A (x.getD []).length c ∧ (A.isNone = x.isNone) ∧ Rd w 1 A (x.getD []).length (u8s (x.getD [])) := by
  cases x with
  | none => have e : v = _ := h; subst e; exact ⟨none, 0, rfl, rfl, Rd.none_⟩
  | some r => obtain ⟨g, c, rfl, hl, hn⟩ := h; exact ⟨_, c, rfl, rfl, hn.rd⟩
theorem sum_le (l : Recs) (k : Nat) (hk : k < l.length) : sum (l.take (k + 1)) = sum (l.take k) + ((l[k]'hk).getD []).length := by
  rw [List.take_succ_eq_append_getElem hk, sum_snoc]

set_option maxHeartbeats 1600000 in
theorem room_any (B P : Nat) (q : MPage) (w : World) (h : PgAt B w P q) (hl : q.l.length ≤ 1000) (hs : sum q.l ≤ 1000000) :
    Calls Try.prog 29 #[.pointer (some ⟨P, 0, none⟩)] w fun e w' => e = .returned (.int .i64 (498 - 4 * q.l.length - sum q.l)) ∧ w' = w := by
  obtain ⟨lp, lv, hb, hr⟩ := h
  obtain ⟨A, c, rfl, hlc⟩ := hr.form
  have c1 : w.cell? ⟨P, 1, none⟩ = some (.slice A q.l.length c) := hb.cell_ 1 rfl
  have HR := hid hr
  clear hb hr
  go_enter Try.func29, Try.ntmps29
  go_wp2_with fail
  go_loopw [3, 18] (fun v i wr => wr = w ∧ ∃ k : Nat, k ≤ q.l.length ∧ i = .int .i64 k ∧ v = .int .i64 (498 - 4 * (q.l.length : Int) - (sum (q.l.take k) : Int))) (fun _ i _ => q.l.length - (intOf i).toNat)
  case atStart => exact ⟨rfl, 0, by omega, rfl, by simp [sum]⟩
  case round =>
    obtain ⟨rfl, k, hk, rfl, rfl⟩ := hrel
    have hsk := sum_take q.l k
    by_cases hlt : k < q.l.length
    · obtain ⟨g, v, rfl, hg, hcell, hfz, he⟩ := HR.out.cell k hlt
      obtain ⟨A2, c2, rfl, _, _⟩ := he.form
      have hlt' : (k : Int) < (q.l.length : Int) := by omega
      have hst := hid (sum_le q.l k hlt)
      have hxl : ((q.l[k]'hlt).getD []).length ≤ 1000000 := by have h1 := hst.out; have h2 := sum_take q.l (k + 1); omega
      generalize ((q.l[k]'hlt).getD []).length = x at *
      generalize hsum : sum (q.l.take k) = s at *
      clear he
      go_wp2
      go_roundw
      case rel => exact ⟨by first | rfl | trivial, k + 1, by omega, by go_num, by rw [hst.out]; congr 1; omega⟩
      case measure => simp [intOf]; omega
    · have hkl : k = q.l.length := by omega
      subst hkl
      rw [List.take_length] at *
      go_wp2
      go_ret
      exact ⟨rfl, rfl⟩

set_option maxHeartbeats 1600000 in
theorem record_any (A : Option Addr) (n c : Nat) (bs : List UInt8) (w : World) (hr : Rd w 1 A n (u8s bs)) (hn : n = bs.length) (hs : n ≤ 100000000) :
    Calls Try.prog 30 #[.slice A n c] w fun e w' => ∃ v, e = .returned v ∧ ElemAt w.heap.size w' v (some bs) ∧ Below w.heap.size w w' := by
  obtain ⟨i0, hi, hz0, hz1, hz2⟩ := info_parts info5
  have HL := hid (World.ownsRow_lit (base := w.heap.size) (e := 5) (size := 1) w #[] 0 (Nat.le_refl _) (by omega) rfl)
  have HFL := hid (hr.keep (w' := w.alloc (.cells #[] 5)) (by simp) fun _ _ h => Below.heap_alloc _ _ _ h)
  have Hn := hid hn
  clear hr hn
  go_enter Try.func30, Try.ntmps30
  go_wp2_with (at_builtin; refine wpList_append_any _ rfl (.tmp 3) (.tmp 4) 23 rfl w.heap.size 5 i0 _ 1 1 Try.underlying23 hi hz0 hz1 hz2 rfl (by omega) _ 0 [] rfl HL.out A n c _ rfl HFL.out (u8s_one _) (by unfold maxLen; omega) (by omega) (by simp) ?_)
  intro v3 w3 hown3' hg3 hat3
  have hown3 : w3.ownsRow w.heap.size 5 1 v3 n (u8s bs) := by simpa using hown3'
  have hb3 : Below w.heap.size w w3 := ((Below.refl _ _).alloc (Nat.le_refl _) (.cells #[] 5)).grown hg3 (by simp) (fun k hk => by simp [Value.ownBlock] at hk; omega)
  have hf : ∃ g c3, v3 = .slice (some ⟨g, 0, none⟩) n c3 ∧ n ≤ c3 := by
    rcases hown3.2 with ⟨h', h0⟩ | ⟨g, cap, cur, h', _, _, hle, _⟩
    · exfalso
      rcases hat3 with h | h
      · rw [h'] at h; simp [Value.ownBlock] at h
      · rw [h'] at h; simp [Value.ownBlock] at h
    · exact ⟨g, cap, h', hle⟩
  obtain ⟨g, c3, rfl, hc3⟩ := hf
  have HO3 := hid hown3
  have HB3 := hid hb3
  clear hown3 hown3' hg3 hat3 hb3
  go_wp2
  go_ret
  refine ⟨.slice (some ⟨g, 0, none⟩) n c3, rfl, ⟨g, c3, by rw [Hn.out], by have := Hn.out; omega, ?_⟩, HB3.out⟩
  have := NewRow.of_own HO3.out
  rw [← Hn.out]
  exact this
end Go.Proofs.Ytpdikmkhkiplbaa
