/-
  bytes.Count of one zero byte.
  Conditions: none.
-/
import Derived.Test.YtofbfehpadjbbaaCountPlain
import Derived.Test.YtofbfehpadjbbaaSltR1
import Derived.Shelf.Bytes.SlCountOne
namespace Go.Proofs.Ytofbfehpadjbbaa
open Go.RowKit Go.Sort Go.Lib
set_option linter.unusedVariables false
theorem bytesOf_map (l : List UInt8) : Lib.bytesOf (l.map fun u => (u.toNat : Int)) = l := by
  unfold Lib.bytesOf
  rw [List.map_map]
  conv => rhs; rw [← List.map_id l]
  refine List.map_congr_left fun u _ => ?_
  simp
theorem count0_any (a : Addr) (n c b2 : Nat) (l : List UInt8) (w : World) (hr : Row w (some a) (bs l)) (hn : l.length = n) (hc2 : w.cell? ⟨b2, 0, none⟩ = some (.int .u8 0)) :
    Calls Try.prog 38 #[.slice (some a) n c, .slice (some ⟨b2, 0, none⟩) 1 1] w fun e w' => e = .returned (.int .i64 (Lib.countByte l 0)) ∧ w' = w := by
  have h := Any.bytes_Count_one_at Try.lays13 a n c b2 0 1 (l.map fun u => (u.toNat : Int)) 0 w (by rw [List.length_map]; exact hn) (fun i hi => ?_) hc2
  · rw [bytesOf_map] at h
    exact h
  · rcases hr with hr | ⟨b, o, e, hcell⟩
    · have := List.map_eq_nil_iff.1 hr
      rw [this] at hn
      simp at hn; omega
    · injection e with e
      subst e
      rw [Addr.add_lit]
      have hi' : i < l.length := by omega
      rw [hcell i _ (by rw [bs_get?, List.getElem?_eq_getElem hi']; rfl)]
      simp [List.getD, hi']
      rfl
theorem count0_all (l : List UInt8) : Lib.countByte l 0 = l.length ↔ ∀ u ∈ l, u = 0 := by
  unfold Lib.countByte
  rw [List.count_eq_length]
  exact ⟨fun h u hu => (h u hu).symm, fun h u hu => (h u hu).symm⟩
end Go.Proofs.Ytofbfehpadjbbaa
