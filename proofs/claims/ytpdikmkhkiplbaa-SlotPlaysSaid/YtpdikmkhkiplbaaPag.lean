/- A page of package slot in plain Lean: its records, and its bytes. No conditions but that the records fit. -/
import Derived.WalkKit
namespace Go.Proofs.Ytpdikmkhkiplbaa
set_option linter.unusedVariables false

abbrev Recs := List (Option (List UInt8))
structure MPage where
  next : Int
  l : Recs

/-- empty slots at the end go -/
def trim (l : Recs) : Recs := (l.reverse.dropWhile (·.isNone)).reverse
theorem trim_nil : trim [] = [] := rfl
theorem trim_none (l : Recs) : trim (l ++ [none]) = trim l := by simp [trim]
theorem trim_some (l : Recs) (r : List UInt8) : trim (l ++ [some r]) = l ++ [some r] := by simp [trim]
theorem snoc_cases (l : Recs) : l = [] ∨ (∃ a, l = a ++ [none]) ∨ ∃ a r, l = a ++ [some r] := by
  rcases List.eq_nil_or_concat l with rfl | ⟨a, x, rfl⟩
  · exact .inl rfl
  · cases x with
    | none => exact .inr (.inl ⟨a, by simp⟩)
    | some r => exact .inr (.inr ⟨a, r, by simp⟩)
theorem trim_fix (l : Recs) (h : l = [] ∨ ∃ a r, l = a ++ [some r]) : trim l = l := by
  rcases h with rfl | ⟨a, r, rfl⟩
  · rfl
  · exact trim_some a r
theorem trim_form (l : Recs) : trim l = [] ∨ ∃ a r, trim l = a ++ [some r] := by
  generalize hn : l.length = n
  induction n generalizing l with
  | zero => have : l = [] := List.eq_nil_of_length_eq_zero hn
            subst this; exact .inl rfl
  | succ n ih =>
    rcases snoc_cases l with rfl | ⟨a, rfl⟩ | ⟨a, r, rfl⟩
    · exact .inl rfl
    · rw [trim_none]; exact ih a (by simpa using hn)
    · exact .inr ⟨a, r, trim_some a r⟩
theorem trim_trim (l : Recs) : trim (trim l) = trim l := trim_fix _ (trim_form l)
theorem trim_prefix (l : Recs) : ∃ k, l = trim l ++ List.replicate k none := by
  generalize hn : l.length = n
  induction n generalizing l with
  | zero => have : l = [] := List.eq_nil_of_length_eq_zero hn
            subst this; exact ⟨0, rfl⟩
  | succ n ih =>
    rcases snoc_cases l with rfl | ⟨a, rfl⟩ | ⟨a, r, rfl⟩
    · exact ⟨0, rfl⟩
    · obtain ⟨k, hk⟩ := ih a (by simpa using hn)
      refine ⟨k + 1, ?_⟩
      rw [trim_none, List.replicate_succ', ← List.append_assoc, ← hk]
    · exact ⟨0, by rw [trim_some]; simp⟩

/-! ### bytes -/
def byte (n : Nat) : UInt8 := UInt8.ofNat n
def two (n : Nat) : List UInt8 := [byte (n / 256), byte n]
def four (n : Nat) : List UInt8 := [byte (n / 16777216), byte (n / 65536), byte (n / 256), byte n]
/-- a slot's four bytes: where its record begins, and its length and one -/
def slotB (e : Nat) : Option (List UInt8) → List UInt8
  | none => [0, 0, 0, 0]
  | some r => two e ++ two (r.length + 1)
def step (s : List UInt8 × List UInt8) (x : Option (List UInt8)) : List UInt8 × List UInt8 :=
  (s.1 ++ slotB (504 - ((x.getD []) ++ s.2).length) x, (x.getD []) ++ s.2)
/-- the slots' bytes, and the records' (the last one first) -/
def st (l : Recs) : List UInt8 × List UInt8 := l.foldl step ([], [])
def sum (l : Recs) : Nat := (l.map fun x => (x.getD []).length).sum
def page (next : Nat) (n : Nat) (s : List UInt8 × List UInt8) : List UInt8 := (two n ++ four next) ++ (s.1 ++ (List.replicate (498 - s.1.length - s.2.length) 0 ++ s.2))
def MPage.bytes (q : MPage) : List UInt8 := page q.next.toNat (trim q.l).length (st (trim q.l))

theorem st_nil : st [] = ([], []) := rfl
theorem st_snoc (l : Recs) (x : Option (List UInt8)) : st (l ++ [x]) = step (st l) x := by simp [st]
theorem sum_snoc (l : Recs) (x : Option (List UInt8)) : sum (l ++ [x]) = sum l + (x.getD []).length := by simp [sum]
theorem length_slotB (e : Nat) (x : Option (List UInt8)) : (slotB e x).length = 4 := by cases x <;> simp [slotB, two]
theorem snoc_induct {P : Recs → Prop} (h0 : P []) (h1 : ∀ l x, P l → P (l ++ [x])) (l : Recs) : P l := by
  generalize hn : l.length = n
  induction n generalizing l with
  | zero => have : l = [] := List.eq_nil_of_length_eq_zero hn
            subst this; exact h0
  | succ n ih =>
    rcases List.eq_nil_or_concat l with rfl | ⟨a, x, rfl⟩
    · exact h0
    · have e : a.concat x = a ++ [x] := by simp
      rw [e] at hn ⊢
      exact h1 a x (ih a (by simpa using hn))
theorem length_st (l : Recs) : (st l).1.length = 4 * l.length ∧ (st l).2.length = sum l := by
  refine snoc_induct (P := fun l => (st l).1.length = 4 * l.length ∧ (st l).2.length = sum l) ⟨rfl, rfl⟩ (fun l x h => ?_) l
  rw [st_snoc, sum_snoc]
  simp only [step, List.length_append, length_slotB, h.1, h.2, List.length_cons, List.length_nil]
  omega
/-- the records fit into a page -/
def Fits (l : Recs) : Prop := 4 * l.length + sum l ≤ 498 ∧ ∀ r, some r ∈ l → r.length ≤ 480
theorem length_page (next n : Nat) (l : Recs) (h : 4 * l.length + sum l ≤ 498) : (page next n (st l)).length = 504 := by
  have := length_st l
  simp only [page, List.length_append, two, four, List.length_cons, List.length_nil, List.length_replicate, this.1, this.2]
  omega
theorem st_append (a b : Recs) : ∃ T U, (st (a ++ b)).1 = (st a).1 ++ T ∧ (st (a ++ b)).2 = U ++ (st a).2 := by
  refine snoc_induct (P := fun b => ∃ T U, (st (a ++ b)).1 = (st a).1 ++ T ∧ (st (a ++ b)).2 = U ++ (st a).2) ⟨[], [], by simp, by simp⟩ (fun b x h => ?_) b
  obtain ⟨T, U, h1, h2⟩ := h
  rw [← List.append_assoc, st_snoc]
  refine ⟨T ++ slotB (504 - ((x.getD []) ++ (st (a ++ b)).2).length) x, x.getD [] ++ U, ?_, ?_⟩
  · simp only [step, h1, List.append_assoc]
  · simp only [step, h2, List.append_assoc]
theorem sum_append (a b : Recs) : sum (a ++ b) = sum a + sum b := by simp [sum]
theorem sum_take (l : Recs) (k : Nat) : sum (l.take k) ≤ sum l := by
  have : l = l.take k ++ l.drop k := (List.take_append_drop k l).symm
  have h := sum_append (l.take k) (l.drop k)
  rw [← this] at h
  omega

theorem rep_add (a b : Nat) (x : UInt8) : List.replicate (a + b) x = List.replicate a x ++ List.replicate b x := by rw [List.replicate_append_replicate]

/-! ### laying a record's bytes over zeros -/
/-- some bytes are laid over others -/
def over (b : List UInt8) (off : Nat) (x : List UInt8) : List UInt8 := b.take off ++ (x ++ b.drop (off + x.length))
theorem over_mid (a x c y : List UInt8) (h : x.length = y.length) : over (a ++ (x ++ c)) a.length y = a ++ (y ++ c) := by
  unfold over
  rw [List.take_append_of_le_length (Nat.le_refl _), List.take_of_length_le (Nat.le_refl _), ← h]
  have : (a ++ (x ++ c)).drop (a.length + x.length) = c := by
    rw [← List.drop_drop, List.drop_append_of_le_length (Nat.le_refl _), List.drop_eq_nil_of_le (Nat.le_refl _), List.nil_append, List.drop_append_of_le_length (Nat.le_refl _), List.drop_eq_nil_of_le (Nat.le_refl _), List.nil_append]
  rw [this]
/-- a record is laid into a page: first the record, then its slot -/
theorem page_step (next n : Nat) (l : Recs) (r : List UInt8) (h : 4 * (l.length + 1) + sum (l ++ [some r]) ≤ 498) :
    over (over (page next n (st l)) (504 - sum (l ++ [some r])) r) (6 + 4 * l.length) (two (504 - sum (l ++ [some r])) ++ two (r.length + 1)) = page next n (st (l ++ [some r])) := by
  have hl := length_st l
  have hs := sum_snoc l (some r)
  simp only [Option.getD_some] at hs
  have e1 : page next n (st l) = ((two n ++ four next) ++ ((st l).1 ++ List.replicate (498 - 4 * l.length - sum (l ++ [some r])) 0)) ++ (List.replicate r.length 0 ++ (st l).2) := by
    have : 498 - (st l).1.length - (st l).2.length = (498 - 4 * l.length - sum (l ++ [some r])) + r.length := by omega
    simp only [page, this, rep_add, List.append_assoc]
  have e2 : 504 - sum (l ++ [some r]) = ((two n ++ four next) ++ ((st l).1 ++ List.replicate (498 - 4 * l.length - sum (l ++ [some r])) 0)).length := by
    simp only [List.length_append, two, four, List.length_cons, List.length_nil, List.length_replicate, hl.1]
    omega
  have e3 : over (page next n (st l)) (504 - sum (l ++ [some r])) r = ((two n ++ four next) ++ ((st l).1 ++ List.replicate (498 - 4 * l.length - sum (l ++ [some r])) 0)) ++ (r ++ (st l).2) := by
    rw [e1]
    conv => lhs; arg 2; rw [e2]
    exact over_mid _ _ _ _ (by simp)
  rw [e3]
  have e4 : List.replicate (498 - 4 * l.length - sum (l ++ [some r])) (0 : UInt8) = List.replicate 4 0 ++ List.replicate (494 - 4 * l.length - sum (l ++ [some r])) 0 := by
    rw [← rep_add]; congr 1; omega
  have e5 : 6 + 4 * l.length = ((two n ++ four next) ++ (st l).1).length := by
    simp only [List.length_append, two, four, List.length_cons, List.length_nil, hl.1]
  rw [e4]
  have e6 : ((two n ++ four next) ++ ((st l).1 ++ (List.replicate 4 0 ++ List.replicate (494 - 4 * l.length - sum (l ++ [some r])) 0))) ++ (r ++ (st l).2) =
      ((two n ++ four next) ++ (st l).1) ++ (List.replicate 4 0 ++ (List.replicate (494 - 4 * l.length - sum (l ++ [some r])) 0 ++ (r ++ (st l).2))) := by simp only [List.append_assoc]
  rw [e6, e5, over_mid _ _ _ _ (by simp [two])]
  rw [st_snoc]
  have hrl : (r ++ (st l).2).length = sum (l ++ [some r]) := by rw [List.length_append, hl.2, hs]; omega
  simp only [page, step, slotB, Option.getD_some, List.append_assoc]
  have e7 : 498 - ((st l).1 ++ (two (504 - (r ++ (st l).2).length) ++ two (r.length + 1))).length - (r ++ (st l).2).length = 494 - 4 * l.length - sum (l ++ [some r]) := by
    rw [hrl]
    simp only [List.length_append, two, List.length_cons, List.length_nil, hl.1]
    omega
  rw [e7, hrl]
theorem page_none (next n : Nat) (l : Recs) (h : 4 * (l.length + 1) + sum l ≤ 498) : page next n (st (l ++ [none])) = page next n (st l) := by
  have hl := length_st l
  rw [st_snoc]
  have e : ((st l).1 ++ [(0 : UInt8), 0, 0, 0]).length = (st l).1.length + 4 := by simp
  have : 498 - (st l).1.length - (st l).2.length = 4 + (498 - ((st l).1.length + 4) - (st l).2.length) := by omega
  simp only [page, step, slotB, Option.getD_none, List.nil_append, e]
  rw [this, rep_add]
  simp only [List.append_assoc]
  rfl
end Go.Proofs.Ytpdikmkhkiplbaa
