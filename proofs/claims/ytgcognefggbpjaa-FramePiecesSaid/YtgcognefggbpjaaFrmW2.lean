/-
  A frame by the program and by the document; the size of the first frame.
  Conditions: the bytes lie in memory as lists; their number is bounded.
-/
import Derived.Test.YtgcognefggbpjaaFrmO
import Derived.Test.YtgcognefggbpjaaFrmM
import Derived.BigQuiet
namespace Go.Proofs.Ytgcognefggbpjaa
open Go.RowKit Go.Sort Go.Lib
set_option linter.unusedVariables false
theorem i64_or_nat (a b : Nat) (ha : a < 4611686018427387904) (hb : b < 4611686018427387904) : bits .or .i64 (a : Int) (b : Int) = ((a ||| b : Nat) : Int) := by
  have hx : a ||| b < 2 ^ 62 := Nat.or_lt_two_pow (by omega) (by omega)
  have e1 : (BitVec.ofInt 64 (a : Int)).toNat = a := by rw [BitVec.toNat_ofInt]; omega
  have e2 : (BitVec.ofInt 64 (b : Int)).toNat = b := by rw [BitVec.toNat_ofInt]; omega
  show IntKind.i64.wrap ((BitVec.ofInt 64 (a : Int) ||| BitVec.ofInt 64 (b : Int)).toNat : Int) = _
  rw [BitVec.toNat_or, e1, e2, IntKind.wrap_i64]
  omega
theorem or4_int (a b c d : Nat) (ha : a < 256) (hb : b < 256) (hc : c < 256) (hd : d < 256) :
    bits .or .i64 (bits .or .i64 (bits .or .i64 (a : Int) ((b : Int) * 256)) ((c : Int) * 65536)) ((d : Int) * 16777216) = ((a + 256 * (b + 256 * (c + 256 * (d + 256 * 0))) : Nat) : Int) := by
  have h := or4 a b c d ha hb hc hd
  rw [Nat.shiftLeft_eq, Nat.shiftLeft_eq, Nat.shiftLeft_eq, show (2 : Nat) ^ 8 = 256 from rfl, show (2 : Nat) ^ 16 = 65536 from rfl, show (2 : Nat) ^ 24 = 16777216 from rfl] at h
  have l1 : a ||| b * 256 < 65536 := Nat.or_lt_two_pow (n := 16) (by omega) (by omega)
  have l2 : (a ||| b * 256) ||| c * 65536 < 16777216 := Nat.or_lt_two_pow (n := 24) (by omega) (by omega)
  have e1 : bits .or .i64 (a : Int) ((b : Int) * 256) = ((a ||| b * 256 : Nat) : Int) := by
    rw [show ((b : Int) * 256) = ((b * 256 : Nat) : Int) from (Int.natCast_mul _ _).symm, i64_or_nat _ _ (by omega) (by omega)]
  have e2 : bits .or .i64 ((a ||| b * 256 : Nat) : Int) ((c : Int) * 65536) = (((a ||| b * 256) ||| c * 65536 : Nat) : Int) := by
    rw [show ((c : Int) * 65536) = ((c * 65536 : Nat) : Int) from (Int.natCast_mul _ _).symm, i64_or_nat _ _ (by omega) (by omega)]
  have e3 : bits .or .i64 (((a ||| b * 256) ||| c * 65536 : Nat) : Int) ((d : Int) * 16777216) = ((((a ||| b * 256) ||| c * 65536) ||| d * 16777216 : Nat) : Int) := by
    rw [show ((d : Int) * 16777216) = ((d * 16777216 : Nat) : Int) from (Int.natCast_mul _ _).symm, i64_or_nat _ _ (by omega) (by omega)]
  rw [e1, e2, e3, h, Nat.mul_zero, Nat.add_zero]
theorem framebytes_no (A : Option Addr) (c : Nat) (p : List UInt8) (w : World) (h : 20000 < p.length) (hl : p.length ≤ 9223372036854775807) :
    Calls Try.prog 32 #[.slice A p.length c] w fun e w' => e = .returned (.tuple #[.slice none 0 0, .int .i64 3]) ∧ w = w' := by
  go_enter Try.func32, Try.ntmps32
  go_wp2
  go_ret2
  exact ⟨rfl, rfl⟩
set_option maxRecDepth 100000 in
theorem framebytes_ok (A : Option Addr) (c : Nat) (p : List UInt8) (w : World) (hr : Row w A (bs p)) (h : p.length ≤ 20000) :
    Calls Try.prog 32 #[.slice A p.length c] w fun e w' => ∃ A' n c', e = .returned (.tuple #[.slice A' n c', .int .i64 0]) ∧ Hid ((FrmM.form p).length = n) ∧ Own w' w.heap.size A' c' (FrmM.form p) ∧ Below w.heap.size w w' := by
  have hwu : IntKind.u32.wrap (p.length : Int) = (p.length : Int) := by rw [IntKind.wrap_u32]; omega
  go_enter Try.func32, Try.ntmps32
  go_wp2_with fail
  refine (Put32_any none 0 p.length [] w (.inl rfl) (by simp) (by omega)).mono ?_
  rintro e w1 ⟨A1, n1, c1, rfl, hn1, o1, b1⟩
  rw [List.nil_append] at hn1 o1
  have hn4 : n1 = 4 := by have := hn1.out; rw [CodeM.fx_length] at this; exact this.symm
  subst hn4
  have hs := b1.size
  have hr1 := hr.below b1
  go_wp2_with (at_builtin; refine wpl_app' _ rfl (.tmp 10) (.tmp 11) rfl w.heap.size A1 c1 (CodeM.fx 4 p.length) 4 rfl (CodeM.fx_length 4 _) o1 A c p p.length rfl rfl hr1 ?_ hs ?_)
  · omega
  intro A2 c2 w2 o2 hg2 _
  have b2 : Below w.heap.size w w2 := o1.grown_below (by rw [CodeM.fx_length]) hg2 b1 (Nat.le_refl _) hs
  go_wp2
  go_ret2
  exact ⟨A2, _, c2, rfl, Lib.hid (by rw [FrmM.form_length]; omega), o2, b2⟩
set_option maxRecDepth 100000 in
theorem refframe_any (A : Option Addr) (c : Nat) (p : List UInt8) (w : World) (hr : Row w A (bs p)) (h : p.length ≤ 140737488355000) :
    Calls Try.prog 33 #[.slice A p.length c] w (NewB (FrmM.form p) w) := by
  have hwu : IntKind.u64.wrap (p.length : Int) = (p.length : Int) := by rw [IntKind.wrap_u64]; omega
  go_enter Try.func33, Try.ntmps33
  go_wp2_with fail
  refine (reffixed_any p.length 4 w (by omega) (by omega)).mono ?_
  rintro e w1 ⟨A1, n1, c1, rfl, hn1, o1, b1⟩
  have hn4 : n1 = 4 := by have := hn1.out; rw [CodeM.fx_length] at this; exact this.symm
  subst hn4
  have hs := b1.size
  have hr1 := hr.below b1
  go_wp2_with (at_builtin; refine wpl_app' _ rfl (.tmp 8) (.tmp 9) rfl w.heap.size A1 c1 (CodeM.fx 4 p.length) 4 rfl (CodeM.fx_length 4 _) o1 A c p p.length rfl rfl hr1 ?_ hs ?_)
  · omega
  intro A2 c2 w2 o2 hg2 _
  have b2 : Below w.heap.size w w2 := o1.grown_below (by rw [CodeM.fx_length]) hg2 b1 (Nat.le_refl _) hs
  go_wp2
  go_ret
  exact ⟨A2, _, c2, rfl, Lib.hid (by rw [FrmM.form_length]; omega), o2, b2⟩
set_option maxRecDepth 100000 in
theorem framesize_any (A : Option Addr) (n c : Nat) (b : List UInt8) (w : World) (hn : b.length = n) (hr : Row w A (bs b)) (hl : n ≤ 140737488355328) :
    Calls Try.prog 56 #[.slice A n c] w fun e w' => e = .returned (.tuple #[.int .i64 ((FrmM.sz b).1 : Int), .int .i64 ((FrmM.sz b).2 : Int)]) ∧ Below w.heap.size w w' := by
  subst hn
  by_cases h4 : b.length < 4
  · have e : FrmM.sz b = (0, 7) := by unfold FrmM.sz; rw [if_pos h4]
    rw [e]
    go_enter Try.func56, Try.ntmps56
    go_wp2
    go_ret2
    exact ⟨rfl, Below.refl _ _⟩
  · obtain ⟨a0, h0⟩ : ∃ u, b[0]? = some u := ⟨_, List.getElem?_eq_getElem (by omega)⟩
    obtain ⟨a1, h1⟩ : ∃ u, b[1]? = some u := ⟨_, List.getElem?_eq_getElem (by omega)⟩
    obtain ⟨a2, h2⟩ : ∃ u, b[2]? = some u := ⟨_, List.getElem?_eq_getElem (by omega)⟩
    obtain ⟨a3, h3⟩ : ∃ u, b[3]? = some u := ⟨_, List.getElem?_eq_getElem (by omega)⟩
    have ht : b.take 4 = [a0, a1, a2, a3] := by
      rw [List.take_add_one, List.take_add_one, List.take_add_one, List.take_add_one, h0, h1, h2, h3]; rfl
    obtain ⟨bb, o, rfl, c0⟩ := row_at hr h0
    obtain ⟨bb1, o1, e1, c1⟩ := row_at hr h1
    obtain ⟨bb2, o2, e2, c2⟩ := row_at hr h2
    obtain ⟨bb3, o3, e3, c3⟩ := row_at hr h3
    cases e1; cases e2; cases e3
    rw [Nat.add_zero] at c0
    have i0 : (0 : Int) < (b.length : Int) := by omega
    have i1 : (1 : Int) < (b.length : Int) := by omega
    have i2 : (2 : Int) < (b.length : Int) := by omega
    have i3 : (3 : Int) < (b.length : Int) := by omega
    have x0 := a0.toNat_lt; have x1 := a1.toNat_lt; have x2 := a2.toNat_lt; have x3 := a3.toNat_lt
    have hle := le4 a0 a1 a2 a3
    rw [← ht] at hle
    have hE := or4_int a0.toNat a1.toNat a2.toNat a3.toNat x0 x1 x2 x3
    rw [← hle] at hE
    have hsz : FrmM.sz b = if 20000 < CodeM.le (b.take 4) then (0, 3) else if b.length - 4 < CodeM.le (b.take 4) then (0, 7) else (CodeM.le (b.take 4), 0) := by unfold FrmM.sz; rw [if_neg h4]
    have hN4 : CodeM.le (b.take 4) < 4294967296 := by rw [hle]; omega
    obtain ⟨N, hN⟩ : ∃ N, CodeM.le (b.take 4) = N := ⟨_, rfl⟩
    rw [hN] at hE hsz hN4
    have HS := Lib.hid hsz
    clear hsz hle hN ht h0 h1 h2 h3
    have bd : ∀ q, Below w.heap.size w (w.drewN q) := fun q => ⟨rfl, rfl, rfl, Nat.le_refl _, fun _ _ => rfl⟩
    by_cases hbig : 20000 < N
    · have e := HS.out
      rw [if_pos hbig] at e
      rw [e]
      clear e
      go_enter Try.func56, Try.ntmps56
      go_wp2
      go_quiet (fail)
      go_wp2
      go_ret2
      exact ⟨rfl, bd _⟩
    · by_cases hsh : b.length - 4 < N
      · have e := HS.out
        rw [if_neg hbig, if_pos hsh] at e
        rw [e]
        clear e
        have hd : decide ((b.length : Int) - 4 < N) = true := decide_eq_true (by omega)
        go_enter Try.func56, Try.ntmps56
        go_wp2
        go_quiet (fail)
        go_wp2
        go_ret2
        exact ⟨rfl, bd _⟩
      · have e := HS.out
        rw [if_neg hbig, if_neg hsh] at e
        rw [e]
        clear e
        have hd : decide ((b.length : Int) - 4 < N) = false := decide_eq_false (by omega)
        go_enter Try.func56, Try.ntmps56
        go_wp2
        go_quiet (fail)
        go_wp2
        go_ret2
        exact ⟨rfl, bd _⟩
end Go.Proofs.Ytgcognefggbpjaa
