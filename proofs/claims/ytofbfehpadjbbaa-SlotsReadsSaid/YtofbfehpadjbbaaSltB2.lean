/-
  The form of a slotted body, in plain words.
  Conditions: none.
-/
import Derived.Test.YtofbfehpadjbbaaSltM
import Derived.Test.YtofbfehpadjbbaaCodeM
namespace Go.Proofs.Ytofbfehpadjbbaa
open Go.RowKit
set_option linter.unusedVariables false
namespace SltM
/-- What is said of a slot. -/
def num (b : Bool) (x : List UInt8) : Nat := if b then x.length + 1 else 0
def nums (full : List Bool) (data : List (List UInt8)) : List UInt8 := (List.zipWith (fun b x => CodeM.fx 2 (num b x)) full data).flatten
theorem nums_snoc {full : List Bool} {data : List (List UInt8)} {k : Nat} {b : Bool} {x : List UInt8} (hb : full[k]? = some b) (hx : data[k]? = some x) : nums (full.take (k + 1)) (data.take (k + 1)) = nums (full.take k) (data.take k) ++ CodeM.fx 2 (num b x) := by
  unfold nums
  rw [← List.take_zipWith, ← List.take_zipWith, List.take_add_one]
  have : (List.zipWith (fun b x => CodeM.fx 2 (num b x)) full data)[k]? = some (CodeM.fx 2 (num b x)) := by
    rw [List.getElem?_zipWith, hb, hx]
  rw [this, List.flatten_append]
  simp
theorem nums_length {full : List Bool} {data : List (List UInt8)} (h : full.length = data.length) : (nums full data).length = 2 * data.length := by
  unfold nums
  induction full generalizing data with
  | nil => cases data with
    | nil => rfl
    | cons x d => cases h
  | cons b f ih =>
    cases data with
    | nil => cases h
    | cons x d =>
      simp only [List.zipWith_cons_cons, List.flatten_cons, List.length_append, List.length_cons, CodeM.fx_length]
      rw [ih (by simpa using h)]; omega
/-- The form, ahead of the zeros. -/
def core (s : Slt) : List UInt8 := [CodeM.byte s.kind] ++ CodeM.fx 4 s.next ++ [CodeM.byte s.data.length] ++ nums s.full s.data ++ s.data.flatten
def form (s : Slt) : List UInt8 := core s ++ List.replicate (500 - (core s).length) 0
theorem sum_flatten (l : List (List UInt8)) : l.flatten.length = sum l := by
  unfold sum
  rw [List.length_flatten]
theorem core_length {s : Slt} (h : s.full.length = s.data.length) : ((core s).length : Int) = 500 - left s := by
  unfold core left
  simp only [List.length_append, List.length_cons, List.length_nil, CodeM.fx_length, nums_length h, sum_flatten]
  omega
theorem form_length {s : Slt} (h : May s) : (form s).length = 500 := by
  have h1 := core_length h.len
  have h2 := h.room
  unfold form
  rw [List.length_append, List.length_replicate]
  omega
end SltM
end Go.Proofs.Ytofbfehpadjbbaa
