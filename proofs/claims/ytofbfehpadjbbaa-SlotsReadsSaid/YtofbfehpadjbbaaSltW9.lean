/-
  What the law's known answer is.
  Conditions: none.
-/
import Derived.Test.YtofbfehpadjbbaaSltW8
namespace Go.Proofs.Ytofbfehpadjbbaa
open Go.RowKit Go.Sort Go.Lib
set_option linter.unusedVariables false
namespace SltM
def s0 : Slt := ⟨0, 0, [], []⟩
def s1 : Slt := ⟨0, 0, [true], [[97, 98]]⟩
def s2 : Slt := ⟨0, 0, [true, true], [[97, 98], [99]]⟩
theorem may0 : May s0 := ⟨rfl, by decide, fun k h => by simp [s0] at h, fun i h => by simp [s0] at h, by decide⟩
theorem may1 : May s1 := by
  refine ⟨rfl, by decide, fun k h => ?_, fun i h => ?_, by decide⟩
  · have : k = 0 := by simpa [s1] using h.symm
    subst this; rfl
  · match i with
    | 0 => cases h
    | i + 1 => simp [s1] at h
theorem may2 : May s2 := by
  refine ⟨rfl, by decide, fun k h => ?_, fun i h => ?_, by decide⟩
  · have : k = 1 := by simpa [s2] using h.symm
    subst this; rfl
  · match i with
    | 0 => cases h
    | 1 => cases h
    | i + 2 => simp [s2] at h
end SltM
def Ins1 (t : Slt) (at_ : Int) (w : World) (e : Ending) (w' : World) : Prop := ∃ A' c1 D' c2, e = .returned (.tuple #[.agg #[.int .u8 0, .int .u32 0, .slice A' t.full.length c1, .slice D' t.data.length c2], .int .i64 at_, .int .i64 0]) ∧ SltAt w' A' t.full.length c1 D' t.data.length c2 t ∧ Below w.heap.size w w'
theorem ins_first (B : Option Addr) (w : World) (hr : Row w B (bs [97, 98])) (cb : Nat) : Calls Try.prog 15 #[.agg #[.int .u8 0, .int .u32 0, .slice none 0 0, .slice none 0 0], .slice B 2 cb] w (Ins1 SltM.s1 0 w) := by
  have h := insert_any SltM.s0 none 0 0 none 0 0 B 2 cb [97, 98] w ⟨rfl, rfl, Nat.le_refl _, Nat.le_refl _, Row.nil _ _, [], rfl, Row.nil _ _, fun p hp => by cases hp⟩ (by decide) (by omega) (by omega) hr rfl (by omega)
  refine Calls.mono h ?_
  rintro e w' (⟨_, hn, _⟩ | ⟨_, (⟨A', n1, c1, D', n2, c2, rfl, hN, _, hb⟩ | ⟨_, hn, _⟩)⟩)
  · exact absurd SltM.may0 hn.out
  · have hl := hN.at_
    obtain rfl : SltM.s1.full.length = n1 := hl.lf
    obtain rfl : SltM.s1.data.length = n2 := hl.ld
    exact ⟨A', c1, D', c2, rfl, hl, hb⟩
  · exact absurd SltM.may1 hn.out
theorem ins_second (A : Option Addr) (cA : Nat) (D : Option Addr) (cD : Nat) (B : Option Addr) (w : World) (hs : SltAt w A 1 cA D 1 cD SltM.s1) (hr : Row w B (bs [99])) (cb : Nat) : Calls Try.prog 15 #[.agg #[.int .u8 0, .int .u32 0, .slice A 1 cA, .slice D 1 cD], .slice B 1 cb] w (Ins1 SltM.s2 1 w) := by
  have h := insert_any SltM.s1 A 1 cA D 1 cD B 1 cb [99] w hs (by decide) (by omega) (by omega) hr rfl (by omega)
  refine Calls.mono h ?_
  rintro e w' (⟨_, hn, _⟩ | ⟨_, (⟨A', n1, c1, D', n2, c2, rfl, hN, _, hb⟩ | ⟨_, hn, _⟩)⟩)
  · exact absurd SltM.may1 hn.out
  · have hl := hN.at_
    obtain rfl : SltM.s2.full.length = n1 := hl.lf
    obtain rfl : SltM.s2.data.length = n2 := hl.ld
    exact ⟨A', c1, D', c2, rfl, hl, hb⟩
  · exact absurd SltM.may2 hn.out
theorem get_first (A : Option Addr) (cA : Nat) (D : Option Addr) (cD : Nat) (w : World) (hs : SltAt w A 2 cA D 2 cD SltM.s2) : Calls Try.prog 11 #[.agg #[.int .u8 0, .int .u32 0, .slice A 2 cA, .slice D 2 cD], .int .i64 0] w fun e w' => ∃ B c, e = .returned (.tuple #[.slice B 2 c, .int .i64 0]) ∧ Row w' B (bs [97, 98]) ∧ Below w.heap.size w w' := by
  have h := get_any SltM.s2 0 A 2 cA D 2 cD w hs (by decide) (by omega) (by omega)
  refine Calls.mono h ?_
  rintro e w' (⟨r, _, hn, _⟩ | ⟨k, x, B, n, c, rfl, hk, _, hx, hn, _, ho, hb⟩)
  · rcases hn.out with h1 | h1
    · exact absurd SltM.may2 h1.2
    · exact absurd ⟨0, rfl, rfl⟩ h1.2.2
  · obtain rfl : k = 0 := by have := hk.out; omega
    obtain rfl : x = [97, 98] := by have h1 := hx.out; injection h1 with h1; exact h1.symm
    obtain rfl : n = 2 := hn.out.symm
    exact ⟨B, c, rfl, ho.out.row, hb⟩
theorem room_second (A : Option Addr) (cA : Nat) (D : Option Addr) (cD : Nat) (w : World) (hs : SltAt w A 2 cA D 2 cD SltM.s2) : Calls Try.prog 13 #[.agg #[.int .u8 0, .int .u32 0, .slice A 2 cA, .slice D 2 cD]] w fun e w' => e = .returned (.int .i64 487) ∧ Below w.heap.size w w' := room_yes SltM.s2 A 2 cA D 2 cD w hs (by decide) SltM.may2
set_option maxRecDepth 100000 in
set_option maxHeartbeats 2000000 in
theorem known08_any (w : World) : Calls Try.prog 10 #[] w fun e w' => e = .returned (.bool true) ∧ Below w.heap.size w w' := by
  go_enter Try.func10, Try.ntmps10
  have kc := fun (w1 : World) => Lib.run_convert_bytes_const (P := Try.prog) w1 27 5 #[.int .u8 97, .int .u8 98] 2 2 Try.underlying27 Try.underlying5
  have kc2 := fun (w1 : World) => Lib.run_convert_bytes_const (P := Try.prog) w1 27 5 #[.int .u8 99] 1 1 Try.underlying27 Try.underlying5
  go_wp2_with fail
  refine (ins_first _ _ (row_new _ _ _ _ _ rfl) _).mono ?_
  rintro e w1 ⟨A1, c1, D1, c2, rfl, hs1, hb1⟩
  have f1 : SltM.s1.full.length = 1 := rfl
  have f2 : SltM.s1.data.length = 1 := rfl
  have g1 : SltM.s2.full.length = 2 := rfl
  have g2 : SltM.s2.data.length = 2 := rfl
  have b1 : Below w.heap.size w w1 := below_step ((Below.refl w.heap.size w).alloc (Nat.le_refl _) _) hb1 (Nat.le_refl _)
  rw [f1, f2] at hs1 ⊢
  have HS1 := Lib.hid hs1
  have HB1 := Lib.hid b1
  clear hs1 b1 hb1 f1 f2
  have kcc : (convert 27 27 (.slice (some ⟨w1.heap.size + 1, 0, none⟩) 1 1)).run Try.prog ((w1.alloc (.cells #[.int .u8 0, .int .u32 0, .slice A1 1 c1, .slice D1 1 c2] 26)).alloc (.cells #[.int .u8 99] 5)) = .ok (.slice (some ⟨w1.heap.size + 1, 0, none⟩) 1 1) ((w1.alloc (.cells #[.int .u8 0, .int .u32 0, .slice A1 1 c1, .slice D1 1 c2] 26)).alloc (.cells #[.int .u8 99] 5 (1, 2))) := by
    have h := kc2 (w1.alloc (.cells #[.int .u8 0, .int .u32 0, .slice A1 1 c1, .slice D1 1 c2] 26))
    simpa using h
  have hrow : Row ((w1.alloc (.cells #[.int .u8 0, .int .u32 0, .slice A1 1 c1, .slice D1 1 c2] 26)).alloc (.cells #[.int .u8 99] 5 (1, 2))) (some ⟨w1.heap.size + 1, 0, none⟩) (bs [99]) := by
    have h := row_new (w1.alloc (.cells #[.int .u8 0, .int .u32 0, .slice A1 1 c1, .slice D1 1 c2] 26)) #[.int .u8 99] 5 (1, 2) (bs [99]) rfl
    simpa using h
  clear kc kc2
  go_wp2_with fail
  refine (ins_second A1 c1 D1 c2 _ _ ((HS1.out.below ((Below.refl _ _).alloc (Nat.le_refl _) _)).below ((Below.refl _ _).alloc (Nat.le_refl _) _)) hrow _).mono ?_
  rintro e w2 ⟨A2, c3, D2, c4, rfl, hs2, hb2⟩
  have b2 : Below w.heap.size w w2 := below_step ((HB1.out.alloc HB1.out.size _).alloc (by have := HB1.out.size; simp; omega) _) hb2 (Nat.le_refl _)
  rw [g1, g2] at hs2 ⊢
  have HS2 := Lib.hid hs2
  have HB2 := Lib.hid b2
  clear hs2 b2 hb2 g1 g2
  go_wp2_with fail
  refine (get_first A2 c3 D2 c4 _ (HS2.out.below ((Below.refl _ _).alloc (Nat.le_refl _) _))).mono ?_
  rintro e w3 ⟨B, c5, rfl, hr3, hb3⟩
  have hX := (Blk.new w2 26 #[.int .u8 0, .int .u32 0, .slice A2 2 c3, .slice D2 2 c4]).below hb3 (Blk.new w2 26 #[.int .u8 0, .int .u32 0, .slice A2 2 c3, .slice D2 2 c4]).lt
  have z0 := hX.cell 0
  have z1 := hX.cell 1
  have z2 := hX.cell 2
  have z3 := hX.cell 3
  simp only [List.getElem?_toArray, List.getElem?_cons_zero, List.getElem?_cons_succ] at z0 z1 z2 z3
  have s1 : (convert 27 9 (.slice B 2 c5)).run Try.prog w3 = .ok (.string ⟨#[97, 98]⟩) w3 := str_len w3 B 2 c5 [97, 98] rfl hr3
  have HS3 := Lib.hid ((HS2.out.below ((Below.refl _ _).alloc (Nat.le_refl _) _)).below hb3)
  have HB3 := Lib.hid (below_step (HB2.out.alloc HB2.out.size _) hb3 (Nat.le_refl _))
  clear hX hb3 hr3
  go_wp2_with fail
  refine (room_second A2 c3 D2 c4 w3 HS3.out).mono ?_
  rintro e w4 ⟨rfl, hb4⟩
  go_wp2
  go_ret
  exact ⟨rfl, below_step HB3.out hb4 (Nat.le_refl _)⟩
end Go.Proofs.Ytofbfehpadjbbaa
