/-
  The document's Get.
  Conditions: the lengths fit.
-/
import Derived.Test.YtofbfehpadjbbaaSltC4
namespace Go.Proofs.Ytofbfehpadjbbaa
open Go.RowKit Go.Sort Go.Lib
set_option linter.unusedVariables false
set_option linter.unusedSimpArgs false
/-- What the document's Get returns: the slice as it lies there. -/
def RGetPost (s : Slt) (p : Int) (w : World) (e : Ending) (w' : World) : Prop :=
  (∃ r : Nat, e = .returned (.tuple #[.slice none 0 0, .int .i64 (r : Int)]) ∧ Hid ((r = 2 ∧ ¬ SltM.May s) ∨ (r = 7 ∧ SltM.May s ∧ ¬ Has s p)) ∧ Below w.heap.size w w') ∨
  (∃ (k : Nat) (x : List UInt8) (B : Option Addr) (n c : Nat), e = .returned (.tuple #[.slice B n c, .int .i64 0]) ∧ Hid (p = (k : Int)) ∧ Hid (s.full[k]? = some true) ∧ Hid (s.data[k]? = some x) ∧ Hid (x.length = n) ∧ Hid (SltM.May s) ∧ Hid (Row w' B (bs x)) ∧ Below w.heap.size w w')
set_option maxRecDepth 100000 in
set_option maxHeartbeats 4000000 in
theorem refget8_any (s : Slt) (p : Int) (A : Option Addr) (nF cA : Nat) (D : Option Addr) (nD cD : Nat) (w : World) (hs : SltAt w A nF cA D nD cD s) (hsum : SltM.sum s.data ≤ 500000) (hmF : nF ≤ 1000000) (hmD : nD ≤ 1000000) :
    Calls Try.prog 21 #[.agg #[.int .u8 (s.kind : Int), .int .u32 (s.next : Int), .slice A nF cA, .slice D nD cD], .int .i64 p] w (RGetPost s p w) := by
  go_enter Try.func21, Try.ntmps21
  go_wp2_with fail
  have hx0 := Blk.new w 26 #[.int .u8 (s.kind : Int), .int .u32 (s.next : Int), .slice A nF cA, .slice D nD cD]
  have hB0 : Below w.heap.size w (w.alloc (.cells #[.int .u8 (s.kind : Int), .int .u32 (s.next : Int), .slice A nF cA, .slice D nD cD] 26)) := (Below.refl w.heap.size w).alloc (Nat.le_refl _) _
  generalize w.alloc (.cells #[.int .u8 (s.kind : Int), .int .u32 (s.next : Int), .slice A nF cA, .slice D nD cD] 26) = V at *
  have hs0 := hs.below hB0
  have hlF := hs.lf
  have hlD := hs.ld
  have hcD := hs.cd
  clear hs
  refine (refmay8_any s A nF cA D nD cD V hs0 (by omega) (by omega) (by omega)).mono ?_
  rintro e w1 ⟨r, rfl, hr, b1⟩
  have hx1 := hx0.below b1 hx0.lt
  have hs1 := hs0.below b1
  have hB1 := below_step hB0 b1 (Nat.le_refl _)
  clear b1 hx0 hs0 hB0
  obtain ⟨d0, d1, d2, d3⟩ := hx1.c4
  cases r with
  | false =>
    have hN : ¬ SltM.May s := fun h => by have := hr.out.2 h; cases this
    go_wp2
    go_ret2
    exact .inl ⟨2, rfl, Lib.hid (.inl ⟨rfl, hN⟩), hB1⟩
  | true =>
    have hM := hr.out.1 rfl
    clear hr
    go_wp2_with fail
    clear d0 d1 d2 d3
    refine (refhas_any s p A nF cA D nD cD w1 hs1 hmF).mono ?_
    rintro e w2 ⟨r2, rfl, hr2, b2⟩
    have hx2 := hx1.below b2 hx1.lt
    have hs2 := hs1.below b2
    have hB2 := below_step hB1 b2 (Nat.le_refl _)
    clear b2 hx1 hs1 hB1
    obtain ⟨d0, d1, d2, d3⟩ := hx2.c4
    cases r2 with
    | false =>
      have hN : ¬ Has s p := fun h => by have := hr2.out.2 h; cases this
      go_wp2
      go_ret2
      exact .inl ⟨7, rfl, Lib.hid (.inr ⟨rfl, hM, hN⟩), hB2⟩
    | true =>
      obtain ⟨k, rfl, hk⟩ := hr2.out.1 rfl
      clear hr2
      have hkF : k < nF := by have := (List.getElem?_eq_some_iff.1 hk).1; omega
      have hFD := hM.len
      have HM := Lib.hid hM
      have HK := Lib.hid hk
      clear hM hk
      have hkD : k < nD := by omega
      obtain ⟨x, hx⟩ : ∃ x, s.data[k]? = some x := ⟨_, List.getElem?_eq_getElem (by omega)⟩
      obtain ⟨gd, od, B, n, c, rfl, hcd, hxl, hxr⟩ := hs2.data_get hx
      have HX := Lib.hid hx
      have HR := Lib.hid hxr
      have HL := Lib.hid hxl
      clear hx hxr hxl
      go_wp2
      go_ret2
      exact .inr ⟨k, x, B, n, c, rfl, Lib.hid rfl, HK, HX, HL, HM, HR, hB2⟩
end Go.Proofs.Ytofbfehpadjbbaa
