/-
  Slices of bytes among the arguments, as they lie in memory.
  Conditions: none.
-/
import Derived.Test.YtgcognefggbpjaaFrmP3
import Derived.Test.YtgcognefggbpjaaFrmQ1
namespace Go.Proofs.Ytgcognefggbpjaa
open Go.RowKit Go.Sort Go.Lib
set_option linter.unusedVariables false
structure Slv where
  A : Option Addr
  c : Nat
  b : List UInt8
def Slv.cells (s : Slv) : List Value := [.slice s.A s.b.length s.c]
structure Slv.At (s : Slv) (w : World) : Prop where
  row : Row w s.A (bs s.b)
  le : s.b.length ≤ s.c
  mx : s.c ≤ maxLen
theorem slvs_get : ∀ (l : List Slv) (k : Nat) (s : Slv), l[k]? = some s → (l.flatMap Slv.cells)[k]? = some (.slice s.A s.b.length s.c)
  | a :: l, 0, s, h => by
    simp at h; subst h
    rfl
  | a :: l, k + 1, s, h => by
    have ih := slvs_get l k s (by simpa using h)
    rw [List.flatMap_cons]
    exact ih
  | [], _, _, h => by simp at h
theorem row_slv {w : World} {A : Option Addr} {l : List Slv} (h : Row w A (l.flatMap Slv.cells)) {k : Nat} {s : Slv} (hs : l[k]? = some s) :
    ∃ b o, A = some ⟨b, o, none⟩ ∧ w.cell? ⟨b, o + k, none⟩ = some (.slice s.A s.b.length s.c) := by
  have g := slvs_get l k s hs
  rcases h with h | ⟨b, o, e, hc⟩
  · rw [h] at g; simp at g
  · exact ⟨b, o, e, hc _ _ g⟩
def Slv.all (l : List Slv) : List (List UInt8) := l.map (·.b)
theorem Slv.all_get {l : List Slv} {k : Nat} {s : Slv} (h : l[k]? = some s) : (Slv.all l)[k]? = some s.b := by
  unfold Slv.all
  rw [List.getElem?_map, h]; rfl
theorem Slv.all_len (l : List Slv) : (Slv.all l).length = l.length := List.length_map _
theorem Slv.take_succ {l : List Slv} {k : Nat} {s : Slv} (h : l[k]? = some s) : FrmM.cat ((Slv.all l).take (k + 1)) = FrmM.cat ((Slv.all l).take k) ++ FrmM.form s.b := by
  obtain ⟨h1, h2⟩ := List.getElem?_eq_some_iff.1 (Slv.all_get h)
  rw [take_snoc _ _ h1, h2, FrmM.cat_append, FrmM.cat_one]
end Go.Proofs.Ytgcognefggbpjaa
