/- The records of package rec in plain Lean: how one is written as bytes, and read from bytes; what is written is read back. Conditions: numbers from 0 to 2^62 where a record is read back. -/
import Derived.WalkKit
namespace Go.Proofs.Ytkpopjpmjcgbfaa
set_option linter.unusedVariables false

def byteAt (n : Int) (i : Nat) : UInt8 := UInt8.ofNat ((n / 2 ^ (56 - 8 * i)) % 256).toNat
/-- eight bytes of a number, the highest first -/
def num8 (n : Int) : List UInt8 := (List.range 8).map (byteAt (max n 0))

structure MRec where
  kind : Int
  txn : Int
  prev : Int
  next : Int
  page : Int
  off : Int
  before : List UInt8
  after : List UInt8
  txns : List (Int × Int × Int)
  dirty : List (Int × Int)
  count : Int

def dat (x : List UInt8) : List UInt8 := num8 x.length ++ x
def txnB (t : Int × Int × Int) : List UInt8 := num8 t.1 ++ (num8 t.2.1 ++ num8 t.2.2)
def dirtyB (d : Int × Int) : List UInt8 := num8 d.1 ++ num8 d.2
def six (r : MRec) : List Int := [r.kind, r.txn, r.prev, r.next, r.page, r.off]
def MRec.body (r : MRec) : List UInt8 :=
  (six r).flatMap num8 ++ (dat r.before ++ (dat r.after ++ (num8 r.txns.length ++ (r.txns.flatMap txnB ++ (num8 r.dirty.length ++ (r.dirty.flatMap dirtyB ++ num8 r.count))))))
def MRec.size (r : MRec) : Nat := 96 + r.before.length + r.after.length + 24 * r.txns.length + 16 * r.dirty.length
def MRec.enc (r : MRec) : List UInt8 := num8 ((r.size : Int) - 8) ++ r.body

theorem length_num8 (n : Int) : (num8 n).length = 8 := by simp [num8]
theorem length_dat (x : List UInt8) : (dat x).length = 8 + x.length := by simp [dat, length_num8]
theorem length_txnB (t : Int × Int × Int) : (txnB t).length = 24 := by simp [txnB, length_num8]
theorem length_dirtyB (t : Int × Int) : (dirtyB t).length = 16 := by simp [dirtyB, length_num8]
theorem length_flat {α : Type} (f : α → List UInt8) (c : Nat) (h : ∀ a, (f a).length = c) (l : List α) : (l.flatMap f).length = c * l.length := by
  induction l with
  | nil => simp
  | cons a l ih => rw [List.flatMap_cons, List.length_append, h, ih, List.length_cons, Nat.mul_succ]; omega
theorem length_body (r : MRec) : r.body.length + 8 = r.size := by
  unfold MRec.body MRec.size
  simp only [List.length_append, length_flat _ 8 length_num8, length_flat _ 24 length_txnB, length_flat _ 16 length_dirtyB, length_dat, length_num8, six, List.length_cons, List.length_nil]
  omega
theorem length_enc (r : MRec) : r.enc.length = r.size := by
  have := length_body r
  simp only [MRec.enc, List.length_append, length_num8]
  omega

/-! ### reading -/
def be (bs : List UInt8) : Nat := bs.foldl (fun a b => 256 * a + b.toNat) 0
structure RS where
  b : List UInt8
  bad : Bool

def RS.num (s : RS) : Nat × RS := if s.bad = true ∨ s.b.length < 8 ∨ 4611686018427387904 < be (s.b.take 8) then (0, ⟨s.b, true⟩) else (be (s.b.take 8), ⟨s.b.drop 8, false⟩)
def RS.data (s : RS) : List UInt8 × RS := if s.num.2.bad = true ∨ s.num.2.b.length < s.num.1 then ([], ⟨s.num.2.b, true⟩) else (s.num.2.b.take s.num.1, ⟨s.num.2.b.drop s.num.1, false⟩)
def RS.txn (s : RS) : (Int × Int × Int) × RS := ((s.num.1, s.num.2.num.1, s.num.2.num.2.num.1), s.num.2.num.2.num.2)
def RS.dir (s : RS) : (Int × Int) × RS := ((s.num.1, s.num.2.num.1), s.num.2.num.2)
def RS.txns : Nat → RS → List (Int × Int × Int) × RS
  | 0, s => ([], s)
  | k + 1, s => if s.bad = true then ([], s) else (s.txn.1 :: (RS.txns k s.txn.2).1, (RS.txns k s.txn.2).2)
def RS.dirs : Nat → RS → List (Int × Int) × RS
  | 0, s => ([], s)
  | k + 1, s => if s.bad = true then ([], s) else (s.dir.1 :: (RS.dirs k s.dir.2).1, (RS.dirs k s.dir.2).2)

def RS.s6 (s : RS) : RS := s.num.2.num.2.num.2.num.2.num.2.num.2
def RS.full (s : RS) : MRec × RS :=
  let s1 := s.num
  let s2 := s1.2.num
  let s3 := s2.2.num
  let s4 := s3.2.num
  let s5 := s4.2.num
  let s6 := s5.2.num
  let s7 := s6.2.data
  let s8 := s7.2.data
  let s9 := s8.2.num
  let s10 := s9.2.txns s9.1
  let s11 := s10.2.num
  let s12 := s11.2.dirs s11.1
  let s13 := s12.2.num
  (⟨s1.1, s2.1, s3.1, s4.1, s5.1, s6.1, s7.1, s8.1, s10.1, s12.1, s13.1⟩, s13.2)

def dec (b : List UInt8) : Option (MRec × Nat) :=
  let h := RS.num ⟨b, false⟩
  if h.2.bad = true ∨ h.2.b.length < h.1 then none
  else
    let x := RS.full ⟨h.2.b.take h.1, false⟩
    if x.2.bad = true ∨ x.2.b ≠ [] then none else some (x.1, h.1 + 8)

theorem toNat_byteAt (n : Int) (i : Nat) : (byteAt n i).toNat = ((n / 2 ^ (56 - 8 * i)) % 256).toNat := by
  unfold byteAt
  rw [UInt8.toNat_ofNat']
  omega

theorem digit (m c d : Nat) (h : d = c * 256) : 256 * (m / d) + m / c % 256 = m / c := by
  subst h
  rw [← Nat.div_div_eq_div_mul]
  omega
theorem digit_int (m c : Nat) : (((m : Int) / (c : Int)) % 256).toNat = m / c % 256 := by
  have : ((m : Int) / (c : Int)) % 256 = ((m / c % 256 : Nat) : Int) := by simp
  rw [this]
  exact Int.toNat_natCast _
theorem toNat_byteNat (m i c : Nat) (hc : 2 ^ (56 - 8 * i) = c) : (byteAt (m : Int) i).toNat = m / c % 256 := by
  have e : ((m : Int) / 2 ^ (56 - 8 * i)) = ((m : Int) / (c : Int)) := by rw [← hc]; simp
  rw [toNat_byteAt, e, digit_int]

theorem be_num8 (n : Int) (h0 : 0 ≤ n) (h1 : n ≤ 9223372036854775807) : be (num8 n) = n.toNat := by
  have hm : max n 0 = n := by omega
  have e : num8 n = [byteAt n 0, byteAt n 1, byteAt n 2, byteAt n 3, byteAt n 4, byteAt n 5, byteAt n 6, byteAt n 7] := by
    simp [num8, hm, List.range, List.range.loop]
  rw [e]
  obtain ⟨m, rfl⟩ : ∃ m : Nat, n = (m : Int) := ⟨n.toNat, by omega⟩
  simp only [be, List.foldl_cons, List.foldl_nil]
  rw [toNat_byteNat m 0 72057594037927936 (by decide), toNat_byteNat m 1 281474976710656 (by decide), toNat_byteNat m 2 1099511627776 (by decide), toNat_byteNat m 3 4294967296 (by decide), toNat_byteNat m 4 16777216 (by decide), toNat_byteNat m 5 65536 (by decide), toNat_byteNat m 6 256 (by decide), toNat_byteNat m 7 1 (by decide)]
  have d0 : 256 * 0 + m / 72057594037927936 % 256 = m / 72057594037927936 := by omega
  rw [d0, digit m 281474976710656 72057594037927936 (by decide), digit m 1099511627776 281474976710656 (by decide), digit m 4294967296 1099511627776 (by decide), digit m 16777216 4294967296 (by decide), digit m 65536 16777216 (by decide), digit m 256 65536 (by decide), digit m 1 256 (by decide)]
  simp

theorem num_app (n : Int) (h0 : 0 ≤ n) (h1 : n ≤ 4611686018427387904) (rest : List UInt8) : RS.num ⟨num8 n ++ rest, false⟩ = (n.toNat, ⟨rest, false⟩) := by
  have hl := length_num8 n
  have ht : (num8 n ++ rest).take 8 = num8 n := by rw [List.take_append_of_le_length (by omega), List.take_of_length_le (by omega)]
  have hd : (num8 n ++ rest).drop 8 = rest := by rw [List.drop_append_of_le_length (by omega), List.drop_eq_nil_of_le (by omega), List.nil_append]
  unfold RS.num
  simp only [ht, hd, be_num8 n h0 (by omega)]
  rw [if_neg]
  simp only [List.length_append, hl]
  simp
  omega

theorem data_app (x rest : List UInt8) (h1 : x.length ≤ 4611686018427387904) : RS.data ⟨dat x ++ rest, false⟩ = (x, ⟨rest, false⟩) := by
  unfold RS.data dat
  rw [List.append_assoc, num_app _ (by omega) (by omega)]
  simp

def Ok (n : Int) : Prop := 0 ≤ n ∧ n ≤ 4611686018427387904

theorem txns_app (l : List (Int × Int × Int)) (h : ∀ t ∈ l, Ok t.1 ∧ Ok t.2.1 ∧ Ok t.2.2) (rest : List UInt8) : RS.txns l.length ⟨l.flatMap txnB ++ rest, false⟩ = (l, ⟨rest, false⟩) := by
  induction l with
  | nil => rfl
  | cons t l ih =>
    obtain ⟨⟨a0, a1⟩, ⟨b0, b1⟩, ⟨c0, c1⟩⟩ := h t (List.mem_cons_self ..)
    have e : RS.txn ⟨(t :: l).flatMap txnB ++ rest, false⟩ = (t, ⟨l.flatMap txnB ++ rest, false⟩) := by
      simp only [RS.txn, List.flatMap_cons, txnB, List.append_assoc]
      rw [num_app _ a0 a1]
      simp only []
      rw [num_app _ b0 b1]
      simp only []
      rw [num_app _ c0 c1]
      obtain ⟨x, y, z⟩ := t
      simp only [] at *
      simp
      omega
    simp only [RS.txns, List.length_cons, e, ih fun u hu => h u (List.mem_cons_of_mem _ hu)]
    simp

theorem dirs_app (l : List (Int × Int)) (h : ∀ t ∈ l, Ok t.1 ∧ Ok t.2) (rest : List UInt8) : RS.dirs l.length ⟨l.flatMap dirtyB ++ rest, false⟩ = (l, ⟨rest, false⟩) := by
  induction l with
  | nil => rfl
  | cons t l ih =>
    obtain ⟨⟨a0, a1⟩, ⟨b0, b1⟩⟩ := h t (List.mem_cons_self ..)
    have e : RS.dir ⟨(t :: l).flatMap dirtyB ++ rest, false⟩ = (t, ⟨l.flatMap dirtyB ++ rest, false⟩) := by
      simp only [RS.dir, List.flatMap_cons, dirtyB, List.append_assoc]
      rw [num_app _ a0 a1]
      simp only []
      rw [num_app _ b0 b1]
      obtain ⟨x, y⟩ := t
      simp only [] at *
      simp
      omega
    simp only [RS.dirs, List.length_cons, e, ih fun u hu => h u (List.mem_cons_of_mem _ hu)]
    simp

structure MRec.Good (r : MRec) : Prop where
  n6 : ∀ n ∈ six r, Ok n
  nc : Ok r.count
  nt : ∀ t ∈ r.txns, Ok t.1 ∧ Ok t.2.1 ∧ Ok t.2.2
  nd : ∀ t ∈ r.dirty, Ok t.1 ∧ Ok t.2
  sz : r.size ≤ 4611686018427387904

theorem full_body (r : MRec) (h : r.Good) : RS.full ⟨r.body, false⟩ = (r, ⟨[], false⟩) := by
  obtain ⟨h6, hc, ht, hd, hs⟩ := h
  have s1 := h6 r.kind (by simp [six])
  have s2 := h6 r.txn (by simp [six])
  have s3 := h6 r.prev (by simp [six])
  have s4 := h6 r.next (by simp [six])
  have s5 := h6 r.page (by simp [six])
  have s6 := h6 r.off (by simp [six])
  unfold MRec.size at hs
  have e : r.body = num8 r.kind ++ (num8 r.txn ++ (num8 r.prev ++ (num8 r.next ++ (num8 r.page ++ (num8 r.off ++ (dat r.before ++ (dat r.after ++ (num8 r.txns.length ++ (r.txns.flatMap txnB ++ (num8 r.dirty.length ++ (r.dirty.flatMap dirtyB ++ (num8 r.count ++ [])))))))))))) := by
    simp [MRec.body, six, List.append_assoc]
  have et : ((r.txns.length : Int)).toNat = r.txns.length := by omega
  have ed : ((r.dirty.length : Int)).toNat = r.dirty.length := by omega
  rw [e]
  simp only [RS.full, num_app _ s1.1 s1.2, num_app _ s2.1 s2.2, num_app _ s3.1 s3.2, num_app _ s4.1 s4.2, num_app _ s5.1 s5.2, num_app _ s6.1 s6.2, data_app _ _ (show r.before.length ≤ 4611686018427387904 by omega), data_app _ _ (show r.after.length ≤ 4611686018427387904 by omega),
    num_app (r.txns.length : Int) (by omega) (by omega), num_app (r.dirty.length : Int) (by omega) (by omega), et, ed, txns_app _ ht, dirs_app _ hd, num_app _ hc.1 hc.2]
  obtain ⟨k, t, p, n, g, o, b, a, l, d, c⟩ := r
  simp only [MRec.mk.injEq, Prod.mk.injEq, and_true, true_and]
  simp only [Ok] at *
  refine ⟨?_, ?_, ?_, ?_, ?_, ?_, ?_⟩ <;> omega

/-- what is written is read back, whatever comes behind it -/
theorem dec_enc (r : MRec) (h : r.Good) (more : List UInt8) : dec (r.enc ++ more) = some (r, r.size) := by
  have hb := length_body r
  have hs := h.sz
  have e : RS.num ⟨r.enc ++ more, false⟩ = (r.body.length, ⟨r.body ++ more, false⟩) := by
    unfold MRec.enc
    rw [List.append_assoc, num_app _ (by omega) (by omega)]
    congr 1
    omega
  unfold dec
  simp only [e]
  rw [if_neg (by simp)]
  simp only [List.take_left', full_body r h]
  simp
  omega

/-- what is cut off is no record -/
theorem dec_short (r : MRec) (h : r.size ≤ 4611686018427387904) (k : Nat) (hk : k < r.size) : dec (r.enc.take k) = none := by
  have hb := length_body r
  have he := length_enc r
  unfold dec
  by_cases h8 : k < 8
  · rw [if_pos]
    left
    unfold RS.num
    rw [if_pos]
    right; left
    simp
    omega
  · have e : r.enc.take k = num8 ((r.size : Int) - 8) ++ r.body.take (k - 8) := by
      have hl := length_num8 ((r.size : Int) - 8)
      rw [MRec.enc, List.take_append, List.take_of_length_le (by omega), hl]
    rw [e, num_app _ (by omega) (by omega)]
    rw [if_pos]
    right
    simp
    omega

/-! ### a number, byte by byte -/
theorem be_snoc (bs : List UInt8) (b : UInt8) : be (bs ++ [b]) = 256 * be bs + b.toNat := by simp [be]
theorem be_take_succ (bs : List UInt8) (j : Nat) (h : j < bs.length) : be (bs.take (j + 1)) = 256 * be (bs.take j) + (bs[j]'h).toNat := by
  rw [List.take_succ_eq_append_getElem h, be_snoc]
theorem be_grows (bs : List UInt8) (j : Nat) (k : Nat) (h : j + k ≤ bs.length) : be (bs.take j) ≤ be (bs.take (j + k)) := by
  induction k with
  | zero => exact Nat.le_refl _
  | succ k ih =>
    have := be_take_succ bs (j + k) (by omega)
    have := ih (by omega)
    rw [← Nat.add_assoc]
    omega
/-- a number that is too great on the way is too great at the end -/
theorem be_far (bs : List UInt8) (j : Nat) (hj : j < 8) (h : 8 ≤ bs.length) (hf : 18014398509481984 < be (bs.take j)) : 4611686018427387904 < be (bs.take 8) := by
  have h1 := be_take_succ bs j (by omega)
  have h2 := be_grows bs (j + 1) (8 - (j + 1)) (by omega)
  have e : j + 1 + (8 - (j + 1)) = 8 := by omega
  rw [e] at h2
  omega
theorem be_lt (bs : List UInt8) (j : Nat) (h : j ≤ bs.length) : be (bs.take j) < 256 ^ j := by
  induction j with
  | zero => simp [be]
  | succ j ih =>
    have h1 := be_take_succ bs j (by omega)
    have h2 := ih (by omega)
    have h3 := (bs[j]'(by omega)).toNat_lt
    rw [Nat.pow_succ]
    omega
end Go.Proofs.Ytkpopjpmjcgbfaa
