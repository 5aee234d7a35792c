/-
  Plain words of the log's records: which may be, their form, and how they are read; no program in sight.
  Conditions: none.
-/
import Derived.Test.YtpgmhjjdnanlgaaCrcM3
import Derived.Test.YtpgmhjjdnanlgaaCodeM3
namespace Go.Proofs.Ytpgmhjjdnanlgaa
open Go.RowKit
set_option linter.unusedVariables false
/-- A record of the log. -/
structure Lrec where
  kind : Int
  lsn : Nat
  epoch : Nat
  txn : Nat
  page : Nat
  off : Nat
  old : List UInt8
  new : List UInt8
  undo : List UInt8
  prev : Nat
  next : Nat
  clr : Bool
  stamp : Nat
  opn : List (Nat × Nat × Nat)
  dirty : List (Nat × Nat)
deriving DecidableEq
namespace LogM
open CodeM
/-- The numbers fit their kinds. -/
structure Fit (x : Lrec) : Prop where
  lsn : x.lsn < 18446744073709551616
  epoch : x.epoch < 4294967296
  txn : x.txn < 18446744073709551616
  page : x.page < 4294967296
  off : x.off < 65536
  prev : x.prev < 18446744073709551616
  next : x.next < 18446744073709551616
  stamp : x.stamp < 18446744073709551616
  opn : ∀ c ∈ x.opn, c.1 < 18446744073709551616 ∧ c.2.1 < 18446744073709551616 ∧ c.2.2 < 18446744073709551616
  dirty : ∀ d ∈ x.dirty, d.1 < 4294967296 ∧ d.2 < 18446744073709551616
def noneW (x : Lrec) : Prop := x.page = 0 ∧ x.off = 0 ∧ x.old = [] ∧ x.new = []
def noneE (x : Lrec) : Prop := x.undo = [] ∧ x.prev = 0 ∧ x.next = 0 ∧ x.clr = false
def noneP (x : Lrec) : Prop := x.opn = [] ∧ x.dirty = []
instance (x : Lrec) : Decidable (noneW x) := by unfold noneW; infer_instance
instance (x : Lrec) : Decidable (noneE x) := by unfold noneE; infer_instance
instance (x : Lrec) : Decidable (noneP x) := by unfold noneP; infer_instance
/-- What a record of its kind may hold. -/
def mayK (x : Lrec) : Prop :=
  if x.kind = 1 then x.old.length = x.new.length ∧ 0 < x.old.length ∧ x.old.length ≤ 500 ∧ x.off + x.old.length ≤ 500
  else if x.kind = 2 then (if x.clr = true then x.undo = [] else x.next = 0 ∧ x.undo.length ≤ 64)
  else if x.kind = 3 ∨ x.kind = 4 then x.txn ≠ 0
  else if x.kind = 5 then x.opn.length ≤ 16 ∧ x.dirty.length ≤ 64
  else False
instance (x : Lrec) : Decidable (mayK x) := by unfold mayK; infer_instance
/-- Nothing that other kinds have. -/
def mayN (x : Lrec) : Prop := (x.kind = 1 ∨ noneW x) ∧ (x.kind = 2 ∨ noneE x) ∧ ((x.kind = 2 ∨ x.kind = 3 ∨ x.kind = 4) ∨ x.txn = 0) ∧ (x.kind = 3 ∨ x.stamp = 0) ∧ (x.kind = 5 ∨ noneP x)
instance (x : Lrec) : Decidable (mayN x) := by unfold mayN; infer_instance
def May (x : Lrec) : Prop := mayN x ∧ mayK x
instance (x : Lrec) : Decidable (May x) := by unfold May; infer_instance
/-- A record with the fields alone that its kind has. -/
def bare (x : Lrec) : Lrec :=
  let y : Lrec := ⟨x.kind, x.lsn, x.epoch, 0, 0, 0, [], [], [], 0, 0, false, 0, [], []⟩
  if x.kind = 1 then { y with page := x.page, off := x.off, old := x.old, new := x.new }
  else if x.kind = 2 then { y with txn := x.txn, undo := x.undo, prev := x.prev, next := x.next, clr := x.clr }
  else if x.kind = 3 then { y with txn := x.txn, stamp := x.stamp }
  else if x.kind = 4 then { y with txn := x.txn }
  else if x.kind = 5 then { y with opn := x.opn, dirty := x.dirty }
  else y
/-- The document's word. -/
def mayR (x : Lrec) : Prop := (1 ≤ x.kind ∧ x.kind ≤ 5) ∧ x = bare x ∧
  (if x.kind = 1 then x.old.length = x.new.length ∧ 0 < x.old.length ∧ x.old.length ≤ 500 ∧ x.off + x.old.length ≤ 500
  else if x.kind = 2 then x.undo.length ≤ 64 ∧ (x.clr = true ∨ x.next = 0) ∧ (x.clr = false ∨ x.undo = [])
  else if x.kind = 5 then x.opn.length ≤ 16 ∧ x.dirty.length ≤ 64
  else x.txn ≠ 0)
theorem mayR_iff (x : Lrec) : mayR x ↔ May x := by
  obtain ⟨kind, lsn, epoch, txn, page, off, old, new, undo, prev, next, clr, stamp, opn, dirty⟩ := x
  unfold mayR May mayN mayK noneW noneE noneP
  by_cases h1 : kind = 1
  · subst h1
    simp [bare]
    intros
    constructor <;> intro h <;> simp_all
  by_cases h2 : kind = 2
  · subst h2
    simp [bare]
    constructor
    · rintro ⟨⟨rfl, rfl, rfl, rfl, rfl, rfl, rfl⟩, h2, h3, h4⟩
      cases clr <;> simp_all
    · rintro ⟨⟨⟨rfl, rfl, rfl, rfl⟩, rfl, rfl, rfl⟩, h2⟩
      cases clr <;> simp_all
  by_cases h3 : kind = 3
  · subst h3
    simp [bare]
    intros
    constructor <;> intro h <;> simp_all
  by_cases h4 : kind = 4
  · subst h4
    simp [bare]
    intros
    constructor <;> intro h <;> simp_all
  by_cases h5 : kind = 5
  · subst h5
    simp [bare]
    intros
    constructor <;> intro h <;> simp_all
  · simp [h1, h2, h3, h4, h5]
    omega
/-! ### The form -/
def chB (c : Nat × Nat × Nat) : List UInt8 := fx 8 c.1 ++ fx 8 c.2.1 ++ fx 8 c.2.2
def dtB (d : Nat × Nat) : List UInt8 := fx 4 d.1 ++ fx 8 d.2
def clrB (b : Bool) : Nat := if b then 1 else 0
def tail (x : Lrec) : List UInt8 :=
  if x.kind = 1 then fx 4 x.page ++ fx 2 x.off ++ tx x.old ++ tx x.new
  else if x.kind = 2 then fx 8 x.txn ++ fx 8 x.prev ++ fx 8 x.next ++ [byte (clrB x.clr)] ++ tx x.undo
  else if x.kind = 3 then fx 8 x.txn ++ fx 8 x.stamp
  else if x.kind = 4 then fx 8 x.txn
  else if x.kind = 5 then uv x.opn.length ++ x.opn.flatMap chB ++ uv x.dirty.length ++ x.dirty.flatMap dtB
  else []
def headB (x : Lrec) : List UInt8 := fx 8 x.lsn ++ fx 4 x.epoch ++ [byte x.kind.toNat]
def body (x : Lrec) : List UInt8 := headB x ++ tail x
def rest (x : Lrec) : List UInt8 := fx 2 ((body x).length + 6) ++ body x
def form (x : Lrec) : List UInt8 := fx 4 (CrcM.sum (rest x)).toNat ++ rest x
theorem chB_length (c : Nat × Nat × Nat) : (chB c).length = 24 := by simp [chB, fx_length]
theorem dtB_length (d : Nat × Nat) : (dtB d).length = 12 := by simp [dtB, fx_length]
theorem chs_length (l : List (Nat × Nat × Nat)) : (l.flatMap chB).length = 24 * l.length := by
  induction l with
  | nil => rfl
  | cons c l ih => rw [List.flatMap_cons, List.length_append, chB_length, ih, List.length_cons]; omega
theorem dts_length (l : List (Nat × Nat)) : (l.flatMap dtB).length = 12 * l.length := by
  induction l with
  | nil => rfl
  | cons c l ih => rw [List.flatMap_cons, List.length_append, dtB_length, ih, List.length_cons]; omega
theorem headB_length (x : Lrec) : (headB x).length = 13 := by simp [headB, fx_length]
theorem uv_le2 {n : Nat} (h : n < 16384) : (uv n).length ≤ 2 := by
  unfold uv uvF
  split
  · simp
  · rw [uvF, if_pos (by omega)]; simp
theorem tx_length (s : List UInt8) (h : s.length < 16384) : (tx s).length ≤ s.length + 2 := by
  have := uv_le2 h
  unfold tx
  rw [List.length_append]; omega
theorem tail_le {x : Lrec} (h : May x) : (tail x).length ≤ 1200 := by
  obtain ⟨hn, hk⟩ := h
  unfold tail
  unfold mayK at hk
  split
  · rename_i h1
    rw [if_pos h1] at hk
    have h2 := tx_length x.old (by omega)
    have h3 := tx_length x.new (by omega)
    simp only [List.length_append, fx_length]; omega
  split
  · rename_i h1 h2
    rw [if_neg h1, if_pos h2] at hk
    have hu : x.undo.length ≤ 64 := by
      split at hk
      · rw [hk]; simp
      · exact hk.2
    have h3 := tx_length x.undo (by omega)
    simp only [List.length_append, fx_length, List.length_cons, List.length_nil]; omega
  split
  · simp [fx_length]
  split
  · simp [fx_length]
  split
  · rename_i h1 h2 h3 h4 h5
    rw [if_neg h1, if_neg h2, if_neg (by omega), if_pos h5] at hk
    have h6 := uv_le2 (n := x.opn.length) (by omega)
    have h7 := uv_le2 (n := x.dirty.length) (by omega)
    simp only [List.length_append, chs_length, dts_length]; omega
  · simp
theorem body_length (x : Lrec) : (body x).length = 13 + (tail x).length := by unfold body; rw [List.length_append, headB_length]
theorem rest_length (x : Lrec) : (rest x).length = 15 + (tail x).length := by unfold rest; rw [List.length_append, fx_length, body_length]; omega
theorem form_length (x : Lrec) : (form x).length = 19 + (tail x).length := by unfold form; rw [List.length_append, fx_length, rest_length]; omega
end LogM
end Go.Proofs.Ytpgmhjjdnanlgaa
