/-
  Plain words of records: their form, what bytes are read as; no program in sight.
  Conditions: none.
-/
import Derived.Test.YtaadfalklddhcaaCodeM2
namespace Go.Proofs.Ytaadfalklddhcaa
open Go.RowKit
set_option linter.unusedVariables false
/-- A record. -/
structure Itm where
  key : Nat
  vec : List Int
  note : List UInt8
/-- Its numbers are in range. -/
structure Itm.Ok (x : Itm) : Prop where
  hk : x.key < 18446744073709551616
  hv : ∀ v ∈ x.vec, -2147483648 ≤ v ∧ v < 2147483648
namespace ItemM
def u32 (v : Int) : Nat := (v % 4294967296).toNat
def i32 (n : Nat) : Int := ((n : Int) + 2147483648) % 4294967296 - 2147483648
theorem u32_lt (v : Int) : u32 v < 4294967296 := by unfold u32; omega
theorem i32_u32 {v : Int} (h : -2147483648 ≤ v ∧ v < 2147483648) : i32 (u32 v) = v := by unfold i32 u32; omega
theorem u32_i32 {n : Nat} (h : n < 4294967296) : u32 (i32 n) = n := by unfold i32 u32; omega
theorem i32_range (n : Nat) : -2147483648 ≤ i32 n ∧ i32 n < 2147483648 := by unfold i32; omega
/-- The components' bytes. -/
def vb (l : List Int) : List UInt8 := l.flatMap fun v => CodeM.fx 4 (u32 v)
theorem vb_length (l : List Int) : (vb l).length = 4 * l.length := by
  induction l with
  | nil => rfl
  | cons v l ih =>
    show (CodeM.fx 4 (u32 v) ++ vb l).length = _
    rw [List.length_append, CodeM.fx_length, ih, List.length_cons]; omega
theorem vb_snoc (l : List Int) (v : Int) : vb (l ++ [v]) = vb l ++ CodeM.fx 4 (u32 v) := by
  unfold vb
  rw [List.flatMap_append]; simp
def may (x : Itm) : Nat := if x.vec.length = 0 ∨ 4096 < x.vec.length then 9 else if 1024 < x.note.length then 3 else 0
def form (x : Itm) : List UInt8 := CodeM.fx 8 x.key ++ (CodeM.uv x.vec.length ++ (vb x.vec ++ CodeM.tx x.note))
def same (a b : Itm) : Bool := decide (a.key = b.key ∧ a.vec = b.vec ∧ a.note = b.note)
theorem same_iff (a b : Itm) : same a b = true ↔ a = b := by
  cases a; cases b
  simp [same]
theorem same_refl (a : Itm) : same a a = true := by simp [same]
theorem same_comm (a b : Itm) : same a b = same b a := by
  exact decide_eq_decide.2 ⟨fun h => ⟨h.1.symm, h.2.1.symm, h.2.2.symm⟩, fun h => ⟨h.1.symm, h.2.1.symm, h.2.2.symm⟩⟩
/-- So many components, one after the other. -/
def vecs : Nat → CodeM.Rd → List Int × CodeM.Rd
  | 0, r => ([], r)
  | i + 1, r => ((vecs i r).1 ++ [i32 ((vecs i r).2.fixed 4).1], ((vecs i r).2.fixed 4).2)
/-- What bytes are read as; none: the error. -/
def read (b : List UInt8) : Option Itm :=
  let k := CodeM.Rd.fixed 8 ⟨b, 0⟩
  let n := k.2.uv
  if n.2.e ≠ 0 ∨ 4096 < n.1 then none else
  let v := vecs n.1 n.2
  let t := v.2.text 1024
  if t.2.e ≠ 0 ∨ t.2.l ≠ [] ∨ n.1 = 0 then none else some ⟨k.1, v.1, t.1⟩
theorem vecs_length (i : Nat) (r : CodeM.Rd) : (vecs i r).1.length = i := by
  induction i with
  | zero => rfl
  | succ i ih => show ((vecs i r).1 ++ [_]).length = _; rw [List.length_append, ih]; rfl
theorem form_length (x : Itm) : (form x).length ≤ 4 * x.vec.length + x.note.length + 28 := by
  have h1 := (CodeM.uv_length x.vec.length).2
  have h2 := (CodeM.uv_length x.note.length).2
  unfold form CodeM.tx
  simp only [List.length_append, CodeM.fx_length, vb_length]; omega
theorem form_ne (x : Itm) : form x ≠ [] := by
  intro h
  have := congrArg List.length h
  unfold form at this
  simp only [List.length_append, CodeM.fx_length, List.length_nil] at this; omega
end ItemM
end Go.Proofs.Ytaadfalklddhcaa
