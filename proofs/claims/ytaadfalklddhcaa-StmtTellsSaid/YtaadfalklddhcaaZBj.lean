/-
  How many bytes a reader has left.
  Conditions: the reader lies in memory.
-/
import Derived.Test.YtaadfalklddhcaaZAj
import Derived.BigQuiet
import Derived.BigRegion
import Derived.Deep.RegionHeldLaw
/-! part -/
namespace Go.Proofs.Ytaadfalklddhcaa
open Go.RowKit Go.Sort Go.Lib
set_option linter.unusedVariables false
namespace CodeM
theorem pow8 (k : Nat) : (2 : Nat) ^ (8 * k) = 256 ^ k := by rw [Nat.pow_mul]
theorem orfx (acc k u : Nat) (h : acc < 256 ^ k) (hu : u < 256) (hk : k < 8) : bits .or .u64 (acc : Int) (IntKind.u64.wrap ((u : Int) * 2 ^ (8 * k))) = ((acc + 256 ^ k * u : Nat) : Int) := by
  rw [← pow8] at h ⊢
  have h1 : 2 ^ (8 * k) ≤ 2 ^ 56 := Nat.pow_le_pow_right (by omega) (by omega)
  have h2 : u * 2 ^ (8 * k) ≤ 255 * 2 ^ 56 := Nat.mul_le_mul (by omega) h1
  have e : (u : Int) * 2 ^ (8 * k) = ((u * 2 ^ (8 * k) : Nat) : Int) := by push_cast; rfl
  rw [e, IntKind.wrap_u64, Int.emod_eq_of_lt (by omega) (by omega), u64_or_nat _ _ (by omega) (by omega), Nat.or_comm, ← Nat.shiftLeft_eq, ← Nat.shiftLeft_add_eq_or_of_lt h, Nat.add_comm, Nat.shiftLeft_eq, Nat.mul_comm]
theorem le_take_succ {l : List UInt8} {k : Nat} {u : UInt8} (hu : l[k]? = some u) : le (l.take (k + 1)) = le (l.take k) + 256 ^ k * u.toNat := by
  obtain ⟨hk, e⟩ := List.getElem?_eq_some_iff.1 hu
  rw [List.take_add_one, hu, le_append, List.length_take, Nat.min_eq_left (by omega)]
  simp [le]
theorem le_take_lt (l : List UInt8) (k : Nat) (hk : k ≤ l.length) : le (l.take k) < 256 ^ k := by
  have := le_lt (l.take k)
  rwa [List.length_take, Nat.min_eq_left hk] at this
theorem fixed_err {l : List UInt8} {k e : Nat} (h : e ≠ 0) : Rd.fixed k ⟨l, e⟩ = (0, ⟨l, e⟩) := by simp [Rd.fixed, h]
theorem fixed_fail {l : List UInt8} {k : Nat} (h : l.length < k) : Rd.fixed k ⟨l, 0⟩ = (0, ⟨l, 4⟩) := by simp [Rd.fixed, h]
theorem fixed_ok {l : List UInt8} {k : Nat} (h : ¬ l.length < k) : Rd.fixed k ⟨l, 0⟩ = (le (l.take k), ⟨l.drop k, 0⟩) := by simp [Rd.fixed, h]
end CodeM
set_option maxRecDepth 100000 in
theorem fixed_any (g : Nat) (r : CodeM.Rd) (size : Nat) (w : World) (hr : RdAt 111 w g r) (hs8 : size ≤ 8) :
    Calls Try.prog 88 #[.pointer (some ⟨g, 0, none⟩), .int .i64 (size : Int)] w (RdStep 111 g (.int .u64 ((r.fixed size).1 : Nat)) (r.fixed size).2 w) := by
  have hr0 := Lib.hid hr
  obtain ⟨l, e⟩ := r
  obtain ⟨A, n, c, hB, rfl, ⟨hc, hn⟩, hc2, hrow⟩ := hr
  have c0 := hB.cell 0
  have c1 := hB.cell 1
  simp only [List.getElem?_toArray, List.getElem?_cons_zero, List.getElem?_cons_succ] at c0 c1
  dsimp only at hn hrow hc c1 c0
  have f0 := hB.frozen 0
  have f1 := hB.frozen 1
  go_enter Try.func88, Try.ntmps88
  go_wp2_with fail
  refine (err_any g _ w hr0.out).mono ?_
  rintro e1 w1 ⟨rfl, rfl⟩
  by_cases he : e = 0
  · subst he
    by_cases hlt : l.length < size
    · go_wp2
      go_ret
      rw [CodeM.fixed_fail hlt]
      exact rd_step rfl (hr0.out.fail 4)
    · have HM := Lib.hid (rd_moved (e := 0) hB hc hn hc2 hrow size (by omega))
      have hsl : ∀ {k u}, k < size → l[k]? = some u → (l.take size)[k]? = some u := fun hk hu => by rw [List.getElem?_take_of_lt hk]; exact hu
      clear hB
      go_wp2
      go_loop [5, 28] (fun v i => ∃ k : Nat, k ≤ size ∧ i = .int .i64 k ∧ v = .int .u64 (CodeM.le (l.take k) : Int)) (fun _ i => size - (intOf i).toNat)
      case atStart => exact ⟨0, by omega, rfl, rfl⟩
      case round =>
        obtain ⟨k, hk, rfl, rfl⟩ := hrel
        by_cases hlk : k < size
        · obtain ⟨u, hu⟩ : ∃ s, l[k]? = some s := ⟨_, List.getElem?_eq_getElem (by omega)⟩
          obtain ⟨b, o, rfl, hcell⟩ := row_at hrow hu
          have ho := (CodeM.orfx (CodeM.le (l.take k)) k u.toNat (CodeM.le_take_lt l k (by omega)) u.toNat_lt (by omega)).trans (congrArg (fun n : Nat => (n : Int)) (CodeM.le_take_succ hu).symm)
          clear hsl
          have hw8 : IntKind.u64.wrap (u.toNat : Int) = (u.toNat : Int) := by
            have := u.toNat_lt
            rw [IntKind.wrap_u64]; omega
          have HO := Lib.hid ho
          clear ho
          go_wp2
          go_round
          case rel => exact ⟨k + 1, by omega, by go_num, congrArg (Value.int .u64) HO.out⟩
          case measure => simp [intOf]; omega
        · obtain rfl : k = size := by omega
          clear hsl
          go_wp2
          · go_ret
            rw [CodeM.fixed_ok hlt]
            refine rd_step rfl (HM.out.1 ?_)
            assumption
          · go_ret
            rw [CodeM.fixed_ok hlt]
            exact rd_step rfl HM.out.2
  · go_wp2
    go_ret
    rw [CodeM.fixed_err he]
    exact ⟨rfl, hr0.out, World.grownBy.refl _ _⟩
end Go.Proofs.Ytaadfalklddhcaa
/-! part -/
namespace Go.Proofs.Ytaadfalklddhcaa
open Go.RowKit Go.Sort Go.Lib
set_option linter.unusedVariables false
namespace CodeM
theorem fixed_lt (k : Nat) (r : Rd) : (r.fixed k).1 < 256 ^ k := by
  unfold Rd.fixed
  have := Nat.pow_pos (n := k) (show 0 < 256 by omega)
  split
  · exact this
  · split
    · exact this
    · exact le_take_lt _ _ (by omega)
theorem text_err {l : List UInt8} {most : Int} {e : Nat} (h : e ≠ 0) : Rd.text most ⟨l, e⟩ = ([], ⟨l, e⟩) := by simp [Rd.text, h]
theorem text_none {l : List UInt8} {most : Int} (h : cnt l = none) : Rd.text most ⟨l, 0⟩ = ([], ⟨l, 4⟩) := by simp [Rd.text, h]
theorem text_long {l : List UInt8} {most : Int} {n k : Nat} (h : cnt l = some (n, k)) (h1 : max 0 most < (n : Int)) : Rd.text most ⟨l, 0⟩ = ([], ⟨l, 3⟩) := by unfold Rd.text; rw [if_neg (by simp), h]; simp only; rw [if_pos h1]
theorem text_short {l : List UInt8} {most : Int} {n k : Nat} (h : cnt l = some (n, k)) (h1 : ¬ max 0 most < (n : Int)) (h2 : l.length - k < n) : Rd.text most ⟨l, 0⟩ = ([], ⟨l, 4⟩) := by unfold Rd.text; rw [if_neg (by simp), h]; simp only; rw [if_neg h1, if_pos h2]
theorem text_ok {l : List UInt8} {most : Int} {n k : Nat} (h : cnt l = some (n, k)) (h1 : ¬ max 0 most < (n : Int)) (h2 : ¬ l.length - k < n) : Rd.text most ⟨l, 0⟩ = ((l.drop k).take n, ⟨l.drop (k + n), 0⟩) := by unfold Rd.text; rw [if_neg (by simp), h]; simp only; rw [if_neg h1, if_neg h2]
end CodeM
theorem u8_any (g : Nat) (r : CodeM.Rd) (w : World) (hr : RdAt 111 w g r) :
    Calls Try.prog 29 #[.pointer (some ⟨g, 0, none⟩)] w (RdStep 111 g (.int .u8 ((r.fixed 1).1 : Nat)) (r.fixed 1).2 w) := by
  have hl := CodeM.fixed_lt 1 r
  have hw : IntKind.u8.wrap ((r.fixed 1).1 : Int) = ((r.fixed 1).1 : Int) := by rw [IntKind.wrap_u8]; omega
  have hw2 : ((r.fixed 1).1 : Int) % 256 = ((r.fixed 1).1 : Int) := by omega
  have H := (fixed_any g r 1 w hr (by omega))
  generalize r.fixed 1 = p at *
  go_enter Try.func29, Try.ntmps29
  go_wp2_with (go_at_call 88; refine H.mono ?_; rintro e w1 ⟨rfl, h1, h2⟩)
  go_ret
  exact ⟨rfl, h1, h2⟩
theorem u16_any (g : Nat) (r : CodeM.Rd) (w : World) (hr : RdAt 111 w g r) :
    Calls Try.prog 30 #[.pointer (some ⟨g, 0, none⟩)] w (RdStep 111 g (.int .u16 ((r.fixed 2).1 : Nat)) (r.fixed 2).2 w) := by
  have hl := CodeM.fixed_lt 2 r
  have hw : IntKind.u16.wrap ((r.fixed 2).1 : Int) = ((r.fixed 2).1 : Int) := by rw [IntKind.wrap_u16]; omega
  have hw2 : ((r.fixed 2).1 : Int) % 65536 = ((r.fixed 2).1 : Int) := by omega
  have H := (fixed_any g r 2 w hr (by omega))
  generalize r.fixed 2 = p at *
  go_enter Try.func30, Try.ntmps30
  go_wp2_with (go_at_call 88; refine H.mono ?_; rintro e w1 ⟨rfl, h1, h2⟩)
  go_ret
  exact ⟨rfl, h1, h2⟩
theorem u32_any (g : Nat) (r : CodeM.Rd) (w : World) (hr : RdAt 111 w g r) :
    Calls Try.prog 69 #[.pointer (some ⟨g, 0, none⟩)] w (RdStep 111 g (.int .u32 ((r.fixed 4).1 : Nat)) (r.fixed 4).2 w) := by
  have hl := CodeM.fixed_lt 4 r
  have hw : IntKind.u32.wrap ((r.fixed 4).1 : Int) = ((r.fixed 4).1 : Int) := by rw [IntKind.wrap_u32]; omega
  have hw2 : ((r.fixed 4).1 : Int) % 4294967296 = ((r.fixed 4).1 : Int) := by omega
  have H := (fixed_any g r 4 w hr (by omega))
  generalize r.fixed 4 = p at *
  go_enter Try.func69, Try.ntmps69
  go_wp2_with (go_at_call 88; refine H.mono ?_; rintro e w1 ⟨rfl, h1, h2⟩)
  go_ret
  exact ⟨rfl, h1, h2⟩
theorem u64_any (g : Nat) (r : CodeM.Rd) (w : World) (hr : RdAt 111 w g r) :
    Calls Try.prog 37 #[.pointer (some ⟨g, 0, none⟩)] w (RdStep 111 g (.int .u64 ((r.fixed 8).1 : Nat)) (r.fixed 8).2 w) := by
  have H := (fixed_any g r 8 w hr (by omega))
  generalize r.fixed 8 = p at *
  go_enter Try.func37, Try.ntmps37
  go_wp2_with (go_at_call 88; refine H.mono ?_; rintro e w1 ⟨rfl, h1, h2⟩)
  go_ret
  exact ⟨rfl, h1, h2⟩
end Go.Proofs.Ytaadfalklddhcaa
/-! part -/
namespace Go.Proofs.Ytaadfalklddhcaa
open Go.RowKit Go.Sort Go.Lib
set_option linter.unusedVariables false
/-- A reader's text: new memory; the reader alone has changed. -/
def RdText (t : TypeId) (g : Nat) (s : List UInt8) (r' : CodeM.Rd) (w : World) (e : Ending) (w' : World) : Prop := ∃ A n c, e = .returned (.slice A n c) ∧ Hid (s.length = n) ∧ Own w' w.heap.size A c s ∧ RdAt t w' g r' ∧ w.grownBy w' (some g)
theorem Own.kept {w w' : World} {base : Nat} {A : Option Addr} {c : Nat} {l : List UInt8} {g : Nat} (h : Own w base A c l) (hg : w.grownBy w' (some g)) (hlt : g < base) : Own w' base A c l := by
  refine World.ownsRow.kept h hg ?_
  by_cases hl : l = []
  · rcases h.2 with ⟨hv, hn⟩ | ⟨g', cap, cur, hv, hb, _⟩
    · left; injection hv with e; rw [e]; rfl
    · right; injection hv with e; rw [e]; simp only [Value.ownBlock]; intro q; injection q with q; omega
  · obtain ⟨g', rfl, hb, _⟩ := h.some_ hl
    right; simp only [Value.ownBlock]; intro q; injection q with q; omega
theorem rd_nil {t : TypeId} {g : Nat} {r' : CodeM.Rd} {w w' : World} (h : RdAt t w' g r') (hg : w.grownBy w' (some g)) : RdText t g [] r' w (.returned (.slice none 0 0)) w' := ⟨none, 0, 0, rfl, Lib.hid rfl, Own.nil_ _ _, h, hg⟩
theorem rd_text {t : TypeId} {g b n1 c1 : Nat} {A1 : Option Addr} {u : Value} {s : List UInt8} {r' : CodeM.Rd} {w w1 w' : World} (h1 : Own w1 w.heap.size A1 c1 s) (hn : Hid (s.length = n1)) (b1 : Below w.heap.size w w1) (hg : g < w.heap.size) (hv : w' = w1.setCell ⟨g, b, none⟩ u) (h : RdAt t w' g r') :
    RdText t g s r' w (.returned (.slice A1 n1 c1)) w' := by
  subst hv
  exact ⟨A1, n1, c1, rfl, hn, h1.kept (grownBy_setCell w1 g b u) hg, h, grownBy_setB (grownBy_below (World.grownBy.refl w (some g)) b1) b u⟩
theorem clone_len (A : Option Addr) (c n : Nat) (l : List UInt8) (w : World) (hr : Row w A (bs l)) (hl : l.length = n) (hc : n ≤ 140737488355328) :
    Calls Try.prog 87 #[.slice A n c] w (NewB l w) := by
  subst hl; exact clone_any A c l w hr hc
theorem row_cut {w : World} {A : Option Addr} {l : List UInt8} {c k n : Nat} (h : Row w A (bs l)) (hc : l.length ≤ c) : (c = k → Row w A (bs ((l.drop k).take n))) ∧ Row w (A.map fun x => x.add k) (bs ((l.drop k).take n)) := by
  refine ⟨?_, ?_⟩
  · rintro rfl
    left; rw [List.drop_eq_nil_of_le hc]; simp [bs]
  · rw [bs_take]; exact (row_drop' h k).take n
set_option maxRecDepth 100000 in
theorem text_any (g : Nat) (r : CodeM.Rd) (most : Int) (w : World) (hr : RdAt 111 w g r) (hm0 : -9223372036854775808 ≤ most) (hm1 : most < 9223372036854775808) :
    Calls Try.prog 34 #[.pointer (some ⟨g, 0, none⟩), .int .i64 most] w (RdText 111 g (r.text most).1 (r.text most).2 w) := by
  have hr0 := Lib.hid hr
  obtain ⟨l, e⟩ := r
  obtain ⟨A, n, c, hB, rfl, ⟨hc, hn⟩, hc2, hrow⟩ := hr
  have c0 := hB.cell 0
  have c1 := hB.cell 1
  simp only [List.getElem?_toArray, List.getElem?_cons_zero, List.getElem?_cons_succ] at c0 c1
  dsimp only at hn hrow hc c1 c0
  have f0 := hB.frozen 0
  have f1 := hB.frozen 1
  go_enter Try.func34, Try.ntmps34
  go_wp2_with fail
  refine (err_any g _ w hr0.out).mono ?_
  rintro e1 w1 ⟨rfl, rfl⟩
  by_cases he : e = 0
  · subst he
    go_wp2_with fail
    refine (rcount_any g _ w hr0.out).mono ?_
    rintro e1 w1 ⟨n, k, ok, rfl, hcnt, rfl⟩
    cases ok with
    | false =>
      go_wp2
      go_ret
      rw [CodeM.text_none hcnt.out]
      exact rd_nil (hr0.out.fail 4) (grownBy_setCell w g 1 _)
    | true =>
      obtain ⟨hn64, hk0, hk, _, _⟩ := CodeM.cnt_some hcnt.out
      dsimp only at hk
      have hmx : IntKind.u64.wrap (max 0 most) = max 0 most := by rw [IntKind.wrap_u64]; omega
      have hmx2 : 0 ≤ max 0 most := by omega
      have hsb : IntKind.u64.wrap ((l.length : Int) - (k : Int)) = (l.length : Int) - (k : Int) := by rw [IntKind.wrap_u64]; omega
      by_cases h1 : max 0 most < (n : Int)
      · have HC := Lib.hid (CodeM.text_long (most := most) hcnt.out h1)
        go_wp2
        all_goals go_ret
        all_goals rw [HC.out]
        all_goals exact rd_nil (hr0.out.fail 3) (grownBy_setCell w g 1 _)
      · by_cases h2 : l.length - k < n
        · have HC := Lib.hid (CodeM.text_short (most := most) hcnt.out h1 h2)
          go_wp2
          all_goals go_ret
          all_goals rw [HC.out]
          all_goals exact rd_nil (hr0.out.fail 4) (grownBy_setCell w g 1 _)
        · have HC := Lib.hid (CodeM.text_ok (most := most) hcnt.out h1 h2)
          have hlt := hB.lt
          have hkn : k + n ≤ l.length := by omega
          have hln : ((l.drop k).take n).length = n := by rw [List.length_take, List.length_drop]; omega
          have HL := Lib.hid hln
          have HS := Lib.hid (row_cut (n := n) (k := k) hrow hc)
          have HB := Lib.hid (fun (w1 : World) (b1 : Below w.heap.size w w1) => rd_moved (e := 0) (hB.below b1 hlt) hc hn hc2 (hrow.below b1) (k + n) hkn)
          have HD := Lib.hid (fun (w1 : World) (b1 : Below w.heap.size w w1) => (hB.below b1 hlt).frozen 0)
          have HN := Lib.hid hcnt
          clear hB hln hcnt
          rcases Int.lt_or_le 0 most with hmp | hmp
          · rw [show max 0 most = most by omega] at *
            go_wp2_with fail
            · refine (clone_len A 0 n _ w (HS.out.1 (by assumption)) HL.out (by omega)).mono ?_
              rintro e w1 ⟨A1, n1, c1, rfl, hn1, h1, b1⟩
              have d0 := cell_below b1 c0
              have fz := HD.out w1 b1
              go_wp2
              all_goals go_ret
              all_goals rw [HC.out]
              all_goals first
                | exact rd_text h1 hn1 b1 hlt rfl ((HB.out w1 b1).1 (by omega))
                | exact rd_text h1 hn1 b1 hlt rfl (HB.out w1 b1).2
            · refine (clone_len (A.map fun x => x.add k) (c - k) n _ w HS.out.2 HL.out (by omega)).mono ?_
              rintro e w1 ⟨A1, n1, c1, rfl, hn1, h1, b1⟩
              have d0 := cell_below b1 c0
              have fz := HD.out w1 b1
              go_wp2
              all_goals go_ret
              all_goals rw [HC.out]
              all_goals first
                | exact rd_text h1 hn1 b1 hlt rfl ((HB.out w1 b1).1 (by omega))
                | exact rd_text h1 hn1 b1 hlt rfl (HB.out w1 b1).2
          · rw [show max 0 most = 0 by omega] at *
            obtain rfl : n = 0 := by omega
            simp only [Nat.add_zero] at HB HC
            go_wp2_with fail
            · refine (clone_len A 0 0 _ w (HS.out.1 (by assumption)) HL.out (by omega)).mono ?_
              rintro e w1 ⟨A1, n1, c1, rfl, hn1, h1, b1⟩
              have d0 := cell_below b1 c0
              have fz := HD.out w1 b1
              go_wp2
              all_goals go_ret
              all_goals rw [HC.out]
              all_goals first
                | exact rd_text h1 hn1 b1 hlt rfl ((HB.out w1 b1).1 (by omega))
                | exact rd_text h1 hn1 b1 hlt rfl (HB.out w1 b1).2
            · refine (clone_len (A.map fun x => x.add k) (c - k) 0 _ w HS.out.2 HL.out (by omega)).mono ?_
              rintro e w1 ⟨A1, n1, c1, rfl, hn1, h1, b1⟩
              have d0 := cell_below b1 c0
              have fz := HD.out w1 b1
              go_wp2
              all_goals go_ret
              all_goals rw [HC.out]
              all_goals first
                | exact rd_text h1 hn1 b1 hlt rfl ((HB.out w1 b1).1 (by omega))
                | exact rd_text h1 hn1 b1 hlt rfl (HB.out w1 b1).2
  · go_wp2
    go_ret
    rw [CodeM.text_err he]
    exact rd_nil hr0.out (World.grownBy.refl _ _)
end Go.Proofs.Ytaadfalklddhcaa
/-! part -/
namespace Go.Proofs.Ytaadfalklddhcaa
open Go.RowKit Go.Sort Go.Lib
set_option linter.unusedVariables false
namespace CodeM
theorem cntF_some {k acc : Nat} {u : UInt8} {l : List UInt8} (hk : k < 9 ∨ (k = 9 ∧ u.toNat ≤ 1)) (hu : u.toNat < 128) (h : k = 0 ∨ u.toNat ≠ 0) : cntF k acc (u :: l) = some (acc + u.toNat % 128 * 2 ^ (7 * k), k + 1) := by
  conv => lhs; unfold cntF
  rw [if_neg (by omega), if_pos hu, if_pos h, Nat.mod_eq_of_lt hu]
theorem cntF_zero {k acc : Nat} {u : UInt8} {l : List UInt8} (hk : 0 < k) (h : u.toNat = 0) : cntF k acc (u :: l) = none := by
  unfold cntF
  by_cases h9 : (k = 9 ∧ 1 < u.toNat) ∨ 9 < k
  · rw [if_pos h9]
  · rw [if_neg h9, if_pos (by omega), if_neg (by omega)]
end CodeM
/-- What a count returns: none is of no bytes. -/
def CntPost2 (l : List UInt8) (w : World) (e : Ending) (w' : World) : Prop := ∃ n k, e = .returned (.tuple #[.int .u64 (n : Nat), .int .i64 (k : Nat)]) ∧ Hid (CodeM.cnt l = if k = 0 then none else some (n, k)) ∧ w = w'
set_option maxRecDepth 100000 in
theorem refcount_any (A : Option Addr) (c : Nat) (l : List UInt8) (w : World) (hrow : Row w A (bs l)) (hn : l.length ≤ 140737488355328) :
    Calls Try.prog 93 #[.slice A l.length c] w (CntPost2 l w) := by
  go_enter Try.func93, Try.ntmps93
  go_wp2
  go_loop [4, 5] (fun v i => ∃ k acc : Nat, k ≤ l.length ∧ i = .int .i64 k ∧ v = .int .u64 (acc : Int) ∧ acc < 2 ^ (7 * k) ∧ k ≤ 10 ∧ CodeM.cnt l = CodeM.cntF k acc (l.drop k)) (fun _ i => l.length - (intOf i).toNat)
  case atStart => exact ⟨0, 0, by omega, rfl, rfl, by omega, by omega, rfl⟩
  case round =>
    obtain ⟨k, acc, hk, rfl, rfl, hacc, hk10, he⟩ := hrel
    by_cases hlt : k < l.length
    · obtain ⟨u, hu⟩ : ∃ s, l[k]? = some s := ⟨_, List.getElem?_eq_getElem hlt⟩
      obtain ⟨b, o, rfl, hcell⟩ := row_at hrow hu
      have hue := (List.getElem?_eq_some_iff.1 hu).2
      have hd : l.drop k = u :: l.drop (k + 1) := by rw [← hue, List.getElem_cons_drop]
      rw [hd] at he
      clear hue hd
      have hu8 := u.toNat_lt
      rcases (by omega : k < 9 ∨ (k = 9 ∧ 1 < u.toNat) ∨ k = 10 ∨ (k = 9 ∧ u.toNat ≤ 1)) with h9 | ⟨rfl, h9⟩ | rfl | ⟨rfl, h9⟩
      · have HP := Lib.hid (CodeM.orsh_wrap acc k u.toNat hacc h9)
        by_cases h128 : u.toNat < 128
        · rcases Nat.eq_zero_or_pos k with rfl | hp
          · rw [Nat.add_zero] at hcell
            have HO := Lib.hid (CodeM.orsh_zero acc u.toNat hacc)
            have HE := Lib.hid (he.trans (CodeM.cntF_some (.inl h9) h128 (.inl rfl)))
            clear he
            by_cases hz : u.toNat = 0
            · have HZ : Hid (bits .or .u64 (acc : Int) 0 = ((acc + u.toNat % 128 * 2 ^ (7 * 0) : Nat) : Int)) := Lib.hid (by rw [← HO.out, hz]; rfl)
              go_wp2
              go_ret2
              exact ⟨_, 1, congrArg (fun v => Ending.returned (.tuple #[.int .u64 v, .int .i64 1])) HZ.out, Lib.hid HE.out, rfl⟩
            · go_wp2
              go_ret2
              exact ⟨_, 1, congrArg (fun v => Ending.returned (.tuple #[.int .u64 v, .int .i64 1])) HO.out, Lib.hid HE.out, rfl⟩
          · by_cases hz : u.toNat = 0
            · have HE := Lib.hid (he.trans (CodeM.cntF_zero hp hz))
              clear he hacc
              go_wp2
              go_ret2
              exact ⟨0, 0, rfl, Lib.hid HE.out, rfl⟩
            · have HE := Lib.hid (he.trans (CodeM.cntF_some (.inl h9) h128 (.inr hz)))
              clear he hacc
              go_wp2
              go_ret2
              exact ⟨_, k + 1, congrArg (fun v => Ending.returned (.tuple #[.int .u64 v, .int .i64 ((k + 1 : Nat) : Int)])) HP.out, Lib.hid HE.out, rfl⟩
        · have HE := Lib.hid (he.trans (CodeM.cntF_more h9 h128))
          have HA := Lib.hid (CodeM.acc_lt hacc (Nat.mod_lt u.toNat (by omega : 0 < 128)))
          clear he
          rcases Nat.eq_zero_or_pos k with rfl | hp
          · rw [Nat.add_zero] at hcell
            have HO := Lib.hid (CodeM.orsh_zero acc u.toNat hacc)
            clear hacc
            go_wp2
            go_round
            case rel => exact ⟨1, _, by omega, by go_num, congrArg (Value.int .u64) HO.out, HA.out, by omega, HE.out⟩
            case measure => simp [intOf]; omega
          · clear hacc
            go_wp2
            go_round
            case rel => exact ⟨k + 1, _, by omega, by go_num, congrArg (Value.int .u64) HP.out, HA.out, by omega, HE.out⟩
            case measure => simp [intOf]; omega
      · have HE := Lib.hid (he.trans (CodeM.cntF_stop (.inl ⟨rfl, h9⟩)))
        clear he hacc
        go_wp2
        go_ret2
        exact ⟨0, 0, rfl, Lib.hid HE.out, rfl⟩
      · have HE := Lib.hid (he.trans (CodeM.cntF_stop (.inr (by omega))))
        clear he hacc
        go_wp2
        go_ret2
        exact ⟨0, 0, rfl, Lib.hid HE.out, rfl⟩
      · have HO := Lib.hid (CodeM.orsh acc 9 (u.toNat % 128) hacc (by omega) (by rw [Nat.mod_eq_of_lt (by omega)]; omega))
        by_cases hz : u.toNat = 0
        · have HE := Lib.hid (he.trans (CodeM.cntF_zero (by omega) hz))
          clear he hacc
          go_wp2
          go_ret2
          exact ⟨0, 0, rfl, Lib.hid HE.out, rfl⟩
        · have HE := Lib.hid (he.trans (CodeM.cntF_some (.inr ⟨rfl, h9⟩) (by omega) (.inr hz)))
          clear he hacc
          go_wp2
          go_ret2
          exact ⟨_, 10, congrArg (fun v => Ending.returned (.tuple #[.int .u64 v, .int .i64 10])) HO.out, Lib.hid HE.out, rfl⟩
    · obtain rfl : k = l.length := by omega
      have HE : Hid (CodeM.cnt l = none) := Lib.hid (by rw [he, List.drop_length]; rfl)
      clear he hacc
      go_wp2
      go_ret2
      exact ⟨0, 0, rfl, Lib.hid HE.out, rfl⟩
end Go.Proofs.Ytaadfalklddhcaa
/-! part -/
namespace Go.Proofs.Ytaadfalklddhcaa
open Go.RowKit Go.Sort Go.Lib
set_option linter.unusedVariables false
namespace CodeM
theorem le_cons {l : List UInt8} {k j : Nat} {u : UInt8} (hu : l[j]? = some u) (hj : j < k) : le ((l.take k).drop j) = le ((l.take k).drop (j + 1)) * 256 + u.toNat := by
  have h : (l.take k)[j]? = some u := by rw [List.getElem?_take_of_lt hj]; exact hu
  obtain ⟨h1, h2⟩ := List.getElem?_eq_some_iff.1 h
  rw [← List.getElem_cons_drop h1, h2]
  show u.toNat + 256 * _ = _
  omega
theorem le_small {l : List UInt8} {k j : Nat} (hk : k ≤ 8) (hj : 0 < j) : le ((l.take k).drop j) ≤ 72057594037927935 := by
  have := le_lt ((l.take k).drop j)
  have h1 : ((l.take k).drop j).length ≤ 7 := by rw [List.length_drop, List.length_take]; omega
  have h2 : 256 ^ ((l.take k).drop j).length ≤ 256 ^ 7 := Nat.pow_le_pow_right (by omega) h1
  have h3 : (256 : Nat) ^ 7 = 72057594037927936 := by decide
  omega
end CodeM
set_option maxRecDepth 100000 in
theorem refnum_any (g : Nat) (r : CodeM.Rd) (size : Nat) (w : World) (hr : RdAt 73 w g r) (hs8 : size ≤ 8) :
    Calls Try.prog 39 #[.pointer (some ⟨g, 0, none⟩), .int .i64 (size : Int)] w (RdStep 73 g (.int .u64 ((r.fixed size).1 : Nat)) (r.fixed size).2 w) := by
  have hr0 := Lib.hid hr
  obtain ⟨l, e⟩ := r
  obtain ⟨A, n, c, hB, rfl, ⟨hc, hn⟩, hc2, hrow⟩ := hr
  have c0 := hB.cell 0
  have c1 := hB.cell 1
  simp only [List.getElem?_toArray, List.getElem?_cons_zero, List.getElem?_cons_succ] at c0 c1
  dsimp only at hn hrow hc c1 c0 hB
  have f0 := hB.frozen 0
  have f1 := hB.frozen 1
  by_cases he : e = 0
  · subst he
    by_cases hlt : l.length < size
    · go_enter Try.func39, Try.ntmps39
      go_wp2
      go_ret
      rw [CodeM.fixed_fail hlt]
      exact rd_step rfl (hr0.out.fail 4)
    · have HM := Lib.hid (rd_moved (e := 0) hB hc hn hc2 hrow size (by omega))
      clear hB
      go_enter Try.func39, Try.ntmps39
      go_wp2
      go_loop [5, 6] (fun v i => ∃ k : Nat, k ≤ size ∧ i = .int .i64 ((k : Int) - 1) ∧ v = .int .u64 (CodeM.le ((l.take size).drop k) : Int)) (fun _ i => (intOf i + 1).toNat)
      case atStart => exact ⟨size, by omega, rfl, by rw [List.drop_eq_nil_of_le (by rw [List.length_take]; omega)]; rfl⟩
      case round =>
        obtain ⟨k, hk, rfl, rfl⟩ := hrel
        cases k with
        | zero =>
          rw [List.drop_zero]
          go_wp2
          · go_ret
            rw [CodeM.fixed_ok hlt]
            refine rd_step rfl (HM.out.1 ?_)
            assumption
          · go_ret
            rw [CodeM.fixed_ok hlt]
            exact rd_step rfl HM.out.2
        | succ k =>
          rw [show (((k + 1 : Nat) : Int) - 1) = (k : Int) by omega]
          obtain ⟨u, hu⟩ : ∃ s, l[k]? = some s := ⟨_, List.getElem?_eq_getElem (by omega)⟩
          obtain ⟨b, o, rfl, hcell⟩ := row_at hrow hu
          have HL := Lib.hid (CodeM.le_cons (k := size) hu (by omega))
          have hsm := CodeM.le_small (l := l) (k := size) (j := k + 1) hs8 (by omega)
          have hu8 := u.toNat_lt
          obtain ⟨N, hN⟩ : ∃ N, CodeM.le ((l.take size).drop (k + 1)) = N := ⟨_, rfl⟩
          rw [hN] at HL hsm ⊢
          have hw8 : IntKind.u64.wrap (u.toNat : Int) = (u.toNat : Int) := by rw [IntKind.wrap_u64]; omega
          clear hN
          go_wp2
          go_round
          case rel => exact ⟨k, by omega, by go_num, congrArg (Value.int .u64) (by rw [HL.out]; push_cast; rfl)⟩
          case measure => simp [intOf]
  · go_enter Try.func39, Try.ntmps39
    go_wp2
    go_ret
    rw [CodeM.fixed_err he]
    exact ⟨rfl, hr0.out, World.grownBy.refl _ _⟩
set_option maxRecDepth 100000 in
theorem refuv_any (g : Nat) (r : CodeM.Rd) (w : World) (hr : RdAt 73 w g r) :
    Calls Try.prog 41 #[.pointer (some ⟨g, 0, none⟩)] w (RdStep 73 g (.int .u64 ((r.uv).1 : Nat)) (r.uv).2 w) := by
  have hr0 := Lib.hid hr
  obtain ⟨l, e⟩ := r
  obtain ⟨A, n, c, hB, rfl, ⟨hc, hn⟩, hc2, hrow⟩ := hr
  have c0 := hB.cell 0
  have c1 := hB.cell 1
  simp only [List.getElem?_toArray, List.getElem?_cons_zero, List.getElem?_cons_succ] at c0 c1
  dsimp only at hn hrow hc c1 c0 hB
  have f0 := hB.frozen 0
  have f1 := hB.frozen 1
  by_cases he : e = 0
  · subst he
    go_enter Try.func41, Try.ntmps41
    go_wp2_with fail
    refine (refcount_any A c l w hrow hn).mono ?_
    rintro e1 w1 ⟨n, k, rfl, hcnt, rfl⟩
    by_cases hk0 : k = 0
    · subst hk0
      go_wp2
      go_ret
      rw [CodeM.uv_fail hcnt.out]
      exact rd_step rfl (hr0.out.fail 4)
    · have hcn := hcnt.out
      rw [if_neg hk0] at hcn
      have hk := (CodeM.cnt_some hcn).2.2.1
      have HM := Lib.hid (rd_moved (e := 0) hB hc hn hc2 hrow k hk)
      have HC := Lib.hid hcn
      clear hB hrow hcn hcnt
      go_wp2
      · go_ret
        rw [CodeM.uv_ok HC.out]
        refine rd_step rfl (HM.out.1 ?_)
        assumption
      · go_ret
        rw [CodeM.uv_ok HC.out]
        exact rd_step rfl HM.out.2
  · go_enter Try.func41, Try.ntmps41
    go_wp2
    go_ret
    rw [CodeM.uv_err he]
    exact ⟨rfl, hr0.out, World.grownBy.refl _ _⟩
end Go.Proofs.Ytaadfalklddhcaa
/-! part -/
namespace Go.Proofs.Ytaadfalklddhcaa
open Go.RowKit Go.Sort Go.Lib
set_option linter.unusedVariables false
set_option maxRecDepth 100000 in
set_option maxHeartbeats 2000000 in
theorem reftext_any (g : Nat) (r : CodeM.Rd) (most : Int) (w : World) (hr : RdAt 73 w g r) (hm0 : -9223372036854775808 ≤ most) (hm1 : most < 9223372036854775808) :
    Calls Try.prog 42 #[.pointer (some ⟨g, 0, none⟩), .int .i64 most] w (RdText 73 g (r.text most).1 (r.text most).2 w) := by
  have hr0 := Lib.hid hr
  obtain ⟨l, e⟩ := r
  obtain ⟨A, n, c, hB, rfl, ⟨hc, hn⟩, hc2, hrow⟩ := hr
  have c0 := hB.cell 0
  have c1 := hB.cell 1
  simp only [List.getElem?_toArray, List.getElem?_cons_zero, List.getElem?_cons_succ] at c0 c1
  dsimp only at hn hrow hc c1 c0 hB
  have f0 := hB.frozen 0
  have f1 := hB.frozen 1
  by_cases he : e = 0
  · subst he
    go_enter Try.func42, Try.ntmps42
    go_wp2_with fail
    refine (refcount_any A c l w hrow hn).mono ?_
    rintro e1 w1 ⟨n, k, rfl, hcnt, rfl⟩
    by_cases hk0 : k = 0
    · subst hk0
      go_wp2
      go_ret
      rw [CodeM.text_none hcnt.out]
      exact rd_nil (hr0.out.fail 4) (grownBy_setCell w g 1 _)
    · have hcn := hcnt.out
      rw [if_neg hk0] at hcn
      obtain ⟨hn64, _, hk, _, _⟩ := CodeM.cnt_some hcn
      clear hcnt
      have hmx : IntKind.u64.wrap (max 0 most) = max 0 most := by rw [IntKind.wrap_u64]; omega
      have hmx2 : 0 ≤ max 0 most := by omega
      have hsb : IntKind.u64.wrap ((l.length : Int) - (k : Int)) = (l.length : Int) - (k : Int) := by rw [IntKind.wrap_u64]; omega
      by_cases h1 : max 0 most < (n : Int)
      · have HC := Lib.hid (CodeM.text_long (most := most) hcn h1)
        clear hcn
        go_wp2
        all_goals go_ret
        all_goals rw [HC.out]
        all_goals exact rd_nil (hr0.out.fail 3) (grownBy_setCell w g 1 _)
      · by_cases h2 : l.length - k < n
        · have HC := Lib.hid (CodeM.text_short (most := most) hcn h1 h2)
          clear hcn
          go_wp2
          all_goals go_ret
          all_goals rw [HC.out]
          all_goals exact rd_nil (hr0.out.fail 4) (grownBy_setCell w g 1 _)
        · have HC := Lib.hid (CodeM.text_ok (most := most) hcn h1 h2)
          clear hcn
          have hlt := hB.lt
          have hkn : k + n ≤ l.length := by omega
          have hln : ((l.drop k).take n).length = n := by rw [List.length_take, List.length_drop]; omega
          have HL := Lib.hid hln
          have HS := Lib.hid (row_cut (n := n) (k := k) hrow hc)
          have HB := Lib.hid (fun (w1 : World) (b1 : Below w.heap.size w w1) => rd_moved (e := 0) (hB.below b1 hlt) hc hn hc2 (hrow.below b1) (k + n) hkn)
          have HD := Lib.hid (fun (w1 : World) (b1 : Below w.heap.size w w1) => (hB.below b1 hlt).frozen 0)
          have ca := (hB.alloc (.cells #[] 5)).cell 0
          simp only [List.getElem?_toArray, List.getElem?_cons_zero] at ca
          clear hB hln
          by_cases hck : c = k
          · obtain rfl : n = 0 := by omega
            subst hck
            have hlc : l.length = c := by omega
            have HX : Hid (∀ (w1 : World), Below w.heap.size w w1 → RdAt 73 (w1.setCell ⟨g, 0, none⟩ (.slice A 0 0)) g ⟨l.drop c, 0⟩) := Lib.hid (fun w1 b1 => by
              have := (HB.out w1 b1).1 rfl
              rw [Nat.add_zero, hlc, Nat.sub_self] at this
              exact this)
            have HC' := HC.out
            rw [List.take_zero, Nat.add_zero] at HC'
            have HC := Lib.hid HC'
            clear HC' HB HS hlc
            rcases Int.lt_or_le 0 most with hmp | hmp
            · rw [show max 0 most = most by omega] at *
              go_wp2_with (at_builtin; refine wpl_app' _ rfl (.tmp 47) (.tmp 57) rfl w.heap.size (some ⟨w.heap.size, 0, none⟩) 0 [] 0 rfl rfl (Own.made w #[] 0 (Nat.le_refl _) (by unfold maxLen; omega) rfl) A 0 [] 0 rfl rfl (.inl rfl) (by omega) (by simp) ?_; intro A1 c1 w1 h1 hg1 _; have b1 : Below w.heap.size w w1 := ((Below.refl w.heap.size w).alloc (Nat.le_refl _) (.cells #[] 5)).grown hg1 (by simp) (by intro k hk; simp [Value.ownBlock] at hk; omega); rw [List.nil_append] at h1; have d0 := cell_below b1 c0; have fz := HD.out w1 b1; clear hg1)
              all_goals go_ret
              all_goals rw [HC.out]
              all_goals exact rd_text h1 (Lib.hid rfl) b1 hlt rfl (HX.out w1 b1)
            · rw [show max 0 most = 0 by omega] at *
              go_wp2_with (at_builtin; refine wpl_app' _ rfl (.tmp 47) (.tmp 57) rfl w.heap.size (some ⟨w.heap.size, 0, none⟩) 0 [] 0 rfl rfl (Own.made w #[] 0 (Nat.le_refl _) (by unfold maxLen; omega) rfl) A 0 [] 0 rfl rfl (.inl rfl) (by omega) (by simp) ?_; intro A1 c1 w1 h1 hg1 _; have b1 : Below w.heap.size w w1 := ((Below.refl w.heap.size w).alloc (Nat.le_refl _) (.cells #[] 5)).grown hg1 (by simp) (by intro k hk; simp [Value.ownBlock] at hk; omega); rw [List.nil_append] at h1; have d0 := cell_below b1 c0; have fz := HD.out w1 b1; clear hg1)
              all_goals go_ret
              all_goals rw [HC.out]
              all_goals exact rd_text h1 (Lib.hid rfl) b1 hlt rfl (HX.out w1 b1)
          · skip
            rcases Int.lt_or_le 0 most with hmp | hmp
            · rw [show max 0 most = most by omega] at *
              go_wp2_with ((at_builtin; refine wpl_app' _ rfl (.tmp 47) (.tmp 57) rfl w.heap.size (some ⟨w.heap.size, 0, none⟩) 0 [] 0 rfl rfl (Own.made w #[] 0 (Nat.le_refl _) (by unfold maxLen; omega) rfl) (A.map fun x => x.add k) (c - k) ((l.drop k).take n) n (by first | rfl | simp [Act.eval]) HL.out (Row.alloc HS.out.2 _) (by omega) (by simp) ?_; intro A1 c1 w1 h1 hg1 _; have b1 : Below w.heap.size w w1 := ((Below.refl w.heap.size w).alloc (Nat.le_refl _) (.cells #[] 5)).grown hg1 (by simp) (by intro k hk; simp [Value.ownBlock] at hk; omega); rw [List.nil_append] at h1; have d0 := cell_below b1 c0; have fz := HD.out w1 b1; clear hg1))
              all_goals go_ret
              all_goals rw [HC.out]
              all_goals first
                | exact rd_text h1 HL b1 hlt rfl ((HB.out w1 b1).1 (by first | assumption | omega))
                | exact rd_text h1 HL b1 hlt rfl (HB.out w1 b1).2
            · rw [show max 0 most = 0 by omega] at *
              go_wp2_with ((at_builtin; refine wpl_app' _ rfl (.tmp 47) (.tmp 57) rfl w.heap.size (some ⟨w.heap.size, 0, none⟩) 0 [] 0 rfl rfl (Own.made w #[] 0 (Nat.le_refl _) (by unfold maxLen; omega) rfl) (A.map fun x => x.add k) (c - k) ((l.drop k).take n) n (by first | rfl | simp [Act.eval]) HL.out (Row.alloc HS.out.2 _) (by omega) (by simp) ?_; intro A1 c1 w1 h1 hg1 _; have b1 : Below w.heap.size w w1 := ((Below.refl w.heap.size w).alloc (Nat.le_refl _) (.cells #[] 5)).grown hg1 (by simp) (by intro k hk; simp [Value.ownBlock] at hk; omega); rw [List.nil_append] at h1; have d0 := cell_below b1 c0; have fz := HD.out w1 b1; clear hg1))
              all_goals go_ret
              all_goals rw [HC.out]
              all_goals first
                | exact rd_text h1 HL b1 hlt rfl ((HB.out w1 b1).1 (by first | assumption | omega))
                | exact rd_text h1 HL b1 hlt rfl (HB.out w1 b1).2
  · go_enter Try.func42, Try.ntmps42
    go_wp2
    go_ret
    rw [CodeM.text_err he]
    exact rd_nil hr0.out (World.grownBy.refl _ _)
end Go.Proofs.Ytaadfalklddhcaa
/-! part -/
namespace Go.Proofs.Ytaadfalklddhcaa
open Go.RowKit Go.Sort Go.Lib
set_option linter.unusedVariables false
/-- A reader in memory, its bytes in a block below B. -/
def RdIn (B : Nat) (t : TypeId) (w : World) (g : Nat) (r : CodeM.Rd) : Prop := ∃ A n c, Blk w g t #[.slice A n c, .int .i64 (r.e : Int)] ∧ r.l.length = n ∧ (n ≤ c ∧ n ≤ 140737488355328) ∧ c ≤ maxLen ∧ Row w A (bs r.l) ∧ (r.l = [] ∨ ∀ a, A = some a → a.block < B)
section
variable {B : Nat} {t : TypeId} {w w' : World} {g : Nat} {r : CodeM.Rd}
theorem RdIn.at_ (h : RdIn B t w g r) : RdAt t w g r := by
  obtain ⟨A, n, c, hB, h1, h2, h3, h4, h5⟩ := h
  exact ⟨A, n, c, hB, h1, h2, h3, h4⟩
theorem RdAt.in_ (h : RdAt t w g r) (hs : w.heap.size ≤ B) : RdIn B t w g r := by
  obtain ⟨A, n, c, hB, h1, h2, h3, h4⟩ := h
  refine ⟨A, n, c, hB, h1, h2, h3, h4, ?_⟩
  rcases h4 with h4 | ⟨b, o, e, hc⟩
  · exact .inl (List.map_eq_nil_iff.1 h4)
  · by_cases hl : r.l = []
    · exact .inl hl
    · right
      intro a ha
      rw [e] at ha
      injection ha with ha
      obtain ⟨u, l', hl'⟩ : ∃ u l', r.l = u :: l' := by
        cases hq : r.l with
        | nil => exact absurd hq hl
        | cons u l' => exact ⟨u, l', rfl⟩
      have h0 := hc 0 (.int .u8 (u.toNat : Int)) (by rw [hl']; rfl)
      have := block_lt_of_cell h0
      rw [← ha]; exact Nat.lt_of_lt_of_le this hs
theorem RdIn.fail (h : RdIn B t w g r) (e : Nat) : RdIn B t (w.setCell ⟨g, 1, none⟩ (.int .i64 (e : Int))) g ⟨r.l, e⟩ := by
  have hr := @RdAt.row t w (w.setCell ⟨g, 1, none⟩ (.int .i64 (e : Int))) g r h.at_ (grownBy_setCell w g 1 _)
  obtain ⟨A, n, c, hB, h1, h2, h3, h4, h5⟩ := h
  exact ⟨A, n, c, hB.set_ 1 (.int .i64 (e : Int)), h1, h2, h3, hr h4, h5⟩
theorem RdIn.lt (h : RdIn B t w g r) : g < w.heap.size := h.at_.lt
/-- Where just one other block has changed. -/
theorem RdIn.grown (h : RdIn B t w g r) {b : Nat} (hg : w.grownBy w' (some b)) (hne : b ≠ g) (hrow : ∀ A l, Row w A (bs l) → (l = [] ∨ ∀ a, A = some a → a.block < B) → Row w' A (bs l)) : RdIn B t w' g r := by
  obtain ⟨A, n, c, hB, h1, h2, h3, h4, h5⟩ := h
  refine ⟨A, n, c, ?_, h1, h2, h3, hrow _ _ h4 h5, h5⟩
  have := hg.block g hB.lt (by simpa using hne.symm)
  unfold Blk at hB ⊢
  rw [this]; exact hB
/-- A block at B or above changes: the reader stays. -/
theorem RdIn.above (h : RdIn B t w g r) {b : Nat} (hg : w.grownBy w' (some b)) (hne : b ≠ g) (hb : B ≤ b) : RdIn B t w' g r :=
  h.grown hg hne fun A l hr ha => by
    rcases ha with rfl | ha
    · exact .inl rfl
    rcases hr with hr | ⟨b', o, e, hc⟩
    · exact .inl hr
    · exact .inr ⟨b', o, e, fun j u hu => hg.cell (hc j u hu) (by simp; have q : b' < B := ha _ e; omega)⟩
/-- Another reader changes: this one stays. -/
theorem RdIn.other {t2 : TypeId} {g2 : Nat} {r2 : CodeM.Rd} (h : RdIn B t w g r) (h2 : RdAt t2 w g2 r2) (hg : w.grownBy w' (some g2)) (hne : g2 ≠ g) : RdIn B t w' g r :=
  h.grown hg hne fun A l hr _ => h2.row hg hr
theorem RdIn.below (h : RdIn B t w g r) (hb : Below w.heap.size w w') : RdIn B t w' g r := by
  obtain ⟨A, n, c, hB, h1, h2, h3, h4, h5⟩ := h
  exact ⟨A, n, c, hB.below hb hB.lt, h1, h2, h3, h4.below hb, h5⟩
end
/-- A reader's method answers, and the reader alone has changed. -/
def RdStepI (B : Nat) (t : TypeId) (g : Nat) (v : Value) (r' : CodeM.Rd) (w : World) (e : Ending) (w' : World) : Prop := e = .returned v ∧ RdIn B t w' g r' ∧ w.grownBy w' (some g)
theorem rdi_step {B : Nat} {t : TypeId} {g : Nat} {v : Value} {r' : CodeM.Rd} {w w' : World} {b : Nat} {u : Value} (hv : w' = w.setCell ⟨g, b, none⟩ u) (h : RdIn B t w' g r') : RdStepI B t g v r' w (.returned v) w' := ⟨rfl, h, hv ▸ grownBy_setCell w g b u⟩
theorem rdi_moved {B : Nat} {t : TypeId} {w : World} {g : Nat} {A : Option Addr} {c e : Nat} {l : List UInt8} (hB : Blk w g t #[.slice A l.length c, .int .i64 (e : Int)]) (hc : l.length ≤ c) (hn : l.length ≤ 140737488355328) (hc2 : c ≤ maxLen) (hrow : Row w A (bs l)) (hbd : l = [] ∨ ∀ a, A = some a → a.block < B) (k : Nat) (hk : k ≤ l.length) :
    (c = k → RdIn B t (w.setCell ⟨g, 0, none⟩ (.slice A (l.length - k) 0)) g ⟨l.drop k, e⟩) ∧ RdIn B t (w.setCell ⟨g, 0, none⟩ (.slice (A.map fun x => x.add k) (l.length - k) (c - k))) g ⟨l.drop k, e⟩ := by
  have hr : ∀ v (A2 : Option Addr) (m : List UInt8), Row w A2 (bs m) → Row (w.setCell ⟨g, 0, none⟩ v) A2 (bs m) := fun v A2 m h => row_other h hB (reader_apart _ _ _ _) (grownBy_setCell w g 0 v)
  refine ⟨?_, ?_⟩
  · rintro rfl
    have e0 : l.drop c = [] := List.drop_eq_nil_of_le hc
    refine ⟨A, l.length - c, 0, hB.set_ 0 _, by rw [List.length_drop], ⟨by omega, by omega⟩, by omega, ?_, .inl e0⟩
    left; show bs (l.drop c) = []
    rw [e0]; rfl
  · refine ⟨_, l.length - k, c - k, hB.set_ 0 _, by rw [List.length_drop], ⟨by omega, by omega⟩, by omega, hr _ _ _ (row_drop' hrow k), ?_⟩
    rcases hbd with rfl | hbd
    · exact .inl (by simp)
    right
    intro a ha
    cases A with
    | none => cases ha
    | some a0 => injection ha with ha; rw [← ha]; have q := hbd a0 rfl; simp only [Addr.add]; split <;> simpa using q
/-- A reader's text: new memory; the reader alone has changed. -/
def RdTextI (B : Nat) (t : TypeId) (g : Nat) (s : List UInt8) (r' : CodeM.Rd) (w : World) (e : Ending) (w' : World) : Prop := ∃ A n c, e = .returned (.slice A n c) ∧ Hid (s.length = n) ∧ Own w' w.heap.size A c s ∧ RdIn B t w' g r' ∧ w.grownBy w' (some g)
theorem rdi_nil {B : Nat} {t : TypeId} {g : Nat} {r' : CodeM.Rd} {w w' : World} (h : RdIn B t w' g r') (hg : w.grownBy w' (some g)) : RdTextI B t g [] r' w (.returned (.slice none 0 0)) w' := ⟨none, 0, 0, rfl, Lib.hid rfl, Own.nil_ _ _, h, hg⟩
theorem rdi_text {B : Nat} {t : TypeId} {g b n1 c1 : Nat} {A1 : Option Addr} {u : Value} {s : List UInt8} {r' : CodeM.Rd} {w w1 w' : World} (h1 : Own w1 w.heap.size A1 c1 s) (hn : Hid (s.length = n1)) (b1 : Below w.heap.size w w1) (hg : g < w.heap.size) (hv : w' = w1.setCell ⟨g, b, none⟩ u) (h : RdIn B t w' g r') :
    RdTextI B t g s r' w (.returned (.slice A1 n1 c1)) w' := by
  subst hv
  exact ⟨A1, n1, c1, rfl, hn, h1.kept (grownBy_setCell w1 g b u) hg, h, grownBy_setB (grownBy_below (World.grownBy.refl w (some g)) b1) b u⟩
set_option maxRecDepth 100000 in
theorem uvI_any {B : Nat} (g : Nat) (r : CodeM.Rd) (w : World) (hr : RdIn B 111 w g r) :
    Calls Try.prog 89 #[.pointer (some ⟨g, 0, none⟩)] w (RdStepI B 111 g (.int .u64 ((r.uv).1 : Nat)) (r.uv).2 w) := by
  have hr0 := Lib.hid hr
  obtain ⟨l, e⟩ := r
  obtain ⟨A, n, c, hB, rfl, ⟨hc, hn⟩, hc2, hrow, hbd⟩ := hr
  have c0 := hB.cell 0
  have c1 := hB.cell 1
  simp only [List.getElem?_toArray, List.getElem?_cons_zero, List.getElem?_cons_succ] at c0 c1
  dsimp only at hn hrow hc c1 c0
  have f0 := hB.frozen 0
  have f1 := hB.frozen 1
  go_enter Try.func89, Try.ntmps89
  go_wp2_with fail
  refine (err_any g _ w hr0.out.at_).mono ?_
  rintro e1 w1 ⟨rfl, rfl⟩
  by_cases he : e = 0
  · subst he
    go_wp2_with fail
    refine (rcount_any g _ w hr0.out.at_).mono ?_
    rintro e1 w1 ⟨n, k, ok, rfl, hcnt, rfl⟩
    cases ok with
    | false =>
      go_wp2
      go_ret
      rw [CodeM.uv_fail hcnt.out]
      exact rdi_step rfl (hr0.out.fail 4)
    | true =>
      have hk := (CodeM.cnt_some hcnt.out).2.2.1
      have HM := Lib.hid (rdi_moved (e := 0) hB hc hn hc2 hrow hbd k hk)
      clear hB hrow
      go_wp2
      · go_ret
        rw [CodeM.uv_ok hcnt.out]
        refine rdi_step rfl (HM.out.1 ?_)
        assumption
      · go_ret
        rw [CodeM.uv_ok hcnt.out]
        exact rdi_step rfl HM.out.2
  · go_wp2
    go_ret
    rw [CodeM.uv_err he]
    exact ⟨rfl, hr0.out, World.grownBy.refl _ _⟩
set_option maxRecDepth 100000 in
theorem fixedI_any {B : Nat} (g : Nat) (r : CodeM.Rd) (size : Nat) (w : World) (hr : RdIn B 111 w g r) (hs8 : size ≤ 8) :
    Calls Try.prog 88 #[.pointer (some ⟨g, 0, none⟩), .int .i64 (size : Int)] w (RdStepI B 111 g (.int .u64 ((r.fixed size).1 : Nat)) (r.fixed size).2 w) := by
  have hr0 := Lib.hid hr
  obtain ⟨l, e⟩ := r
  obtain ⟨A, n, c, hB, rfl, ⟨hc, hn⟩, hc2, hrow, hbd⟩ := hr
  have c0 := hB.cell 0
  have c1 := hB.cell 1
  simp only [List.getElem?_toArray, List.getElem?_cons_zero, List.getElem?_cons_succ] at c0 c1
  dsimp only at hn hrow hc c1 c0
  have f0 := hB.frozen 0
  have f1 := hB.frozen 1
  go_enter Try.func88, Try.ntmps88
  go_wp2_with fail
  refine (err_any g _ w hr0.out.at_).mono ?_
  rintro e1 w1 ⟨rfl, rfl⟩
  by_cases he : e = 0
  · subst he
    by_cases hlt : l.length < size
    · go_wp2
      go_ret
      rw [CodeM.fixed_fail hlt]
      exact rdi_step rfl (hr0.out.fail 4)
    · have HM := Lib.hid (rdi_moved (e := 0) hB hc hn hc2 hrow hbd size (by omega))
      have hsl : ∀ {k u}, k < size → l[k]? = some u → (l.take size)[k]? = some u := fun hk hu => by rw [List.getElem?_take_of_lt hk]; exact hu
      clear hB
      go_wp2
      go_loop [5, 28] (fun v i => ∃ k : Nat, k ≤ size ∧ i = .int .i64 k ∧ v = .int .u64 (CodeM.le (l.take k) : Int)) (fun _ i => size - (intOf i).toNat)
      case atStart => exact ⟨0, by omega, rfl, rfl⟩
      case round =>
        obtain ⟨k, hk, rfl, rfl⟩ := hrel
        by_cases hlk : k < size
        · obtain ⟨u, hu⟩ : ∃ s, l[k]? = some s := ⟨_, List.getElem?_eq_getElem (by omega)⟩
          obtain ⟨b, o, rfl, hcell⟩ := row_at hrow hu
          have ho := (CodeM.orfx (CodeM.le (l.take k)) k u.toNat (CodeM.le_take_lt l k (by omega)) u.toNat_lt (by omega)).trans (congrArg (fun n : Nat => (n : Int)) (CodeM.le_take_succ hu).symm)
          clear hsl
          have hw8 : IntKind.u64.wrap (u.toNat : Int) = (u.toNat : Int) := by
            have := u.toNat_lt
            rw [IntKind.wrap_u64]; omega
          have HO := Lib.hid ho
          clear ho
          go_wp2
          go_round
          case rel => exact ⟨k + 1, by omega, by go_num, congrArg (Value.int .u64) HO.out⟩
          case measure => simp [intOf]; omega
        · obtain rfl : k = size := by omega
          clear hsl
          go_wp2
          · go_ret
            rw [CodeM.fixed_ok hlt]
            refine rdi_step rfl (HM.out.1 ?_)
            assumption
          · go_ret
            rw [CodeM.fixed_ok hlt]
            exact rdi_step rfl HM.out.2
  · go_wp2
    go_ret
    rw [CodeM.fixed_err he]
    exact ⟨rfl, hr0.out, World.grownBy.refl _ _⟩
theorem u8I_any {B : Nat} (g : Nat) (r : CodeM.Rd) (w : World) (hr : RdIn B 111 w g r) :
    Calls Try.prog 29 #[.pointer (some ⟨g, 0, none⟩)] w (RdStepI B 111 g (.int .u8 ((r.fixed 1).1 : Nat)) (r.fixed 1).2 w) := by
  have hl := CodeM.fixed_lt 1 r
  have hw : IntKind.u8.wrap ((r.fixed 1).1 : Int) = ((r.fixed 1).1 : Int) := by rw [IntKind.wrap_u8]; omega
  have hw2 : ((r.fixed 1).1 : Int) % 256 = ((r.fixed 1).1 : Int) := by omega
  have H := (fixedI_any g r 1 w hr (by omega))
  generalize r.fixed 1 = p at *
  go_enter Try.func29, Try.ntmps29
  go_wp2_with (go_at_call 88; refine H.mono ?_; rintro e w1 ⟨rfl, h1, h2⟩)
  go_ret
  exact ⟨rfl, h1, h2⟩
theorem u16I_any {B : Nat} (g : Nat) (r : CodeM.Rd) (w : World) (hr : RdIn B 111 w g r) :
    Calls Try.prog 30 #[.pointer (some ⟨g, 0, none⟩)] w (RdStepI B 111 g (.int .u16 ((r.fixed 2).1 : Nat)) (r.fixed 2).2 w) := by
  have hl := CodeM.fixed_lt 2 r
  have hw : IntKind.u16.wrap ((r.fixed 2).1 : Int) = ((r.fixed 2).1 : Int) := by rw [IntKind.wrap_u16]; omega
  have hw2 : ((r.fixed 2).1 : Int) % 65536 = ((r.fixed 2).1 : Int) := by omega
  have H := (fixedI_any g r 2 w hr (by omega))
  generalize r.fixed 2 = p at *
  go_enter Try.func30, Try.ntmps30
  go_wp2_with (go_at_call 88; refine H.mono ?_; rintro e w1 ⟨rfl, h1, h2⟩)
  go_ret
  exact ⟨rfl, h1, h2⟩
theorem u32I_any {B : Nat} (g : Nat) (r : CodeM.Rd) (w : World) (hr : RdIn B 111 w g r) :
    Calls Try.prog 69 #[.pointer (some ⟨g, 0, none⟩)] w (RdStepI B 111 g (.int .u32 ((r.fixed 4).1 : Nat)) (r.fixed 4).2 w) := by
  have hl := CodeM.fixed_lt 4 r
  have hw : IntKind.u32.wrap ((r.fixed 4).1 : Int) = ((r.fixed 4).1 : Int) := by rw [IntKind.wrap_u32]; omega
  have hw2 : ((r.fixed 4).1 : Int) % 4294967296 = ((r.fixed 4).1 : Int) := by omega
  have H := (fixedI_any g r 4 w hr (by omega))
  generalize r.fixed 4 = p at *
  go_enter Try.func69, Try.ntmps69
  go_wp2_with (go_at_call 88; refine H.mono ?_; rintro e w1 ⟨rfl, h1, h2⟩)
  go_ret
  exact ⟨rfl, h1, h2⟩
theorem u64I_any {B : Nat} (g : Nat) (r : CodeM.Rd) (w : World) (hr : RdIn B 111 w g r) :
    Calls Try.prog 37 #[.pointer (some ⟨g, 0, none⟩)] w (RdStepI B 111 g (.int .u64 ((r.fixed 8).1 : Nat)) (r.fixed 8).2 w) := by
  have H := (fixedI_any g r 8 w hr (by omega))
  generalize r.fixed 8 = p at *
  go_enter Try.func37, Try.ntmps37
  go_wp2_with (go_at_call 88; refine H.mono ?_; rintro e w1 ⟨rfl, h1, h2⟩)
  go_ret
  exact ⟨rfl, h1, h2⟩
set_option maxRecDepth 100000 in
theorem textI_any {B : Nat} (g : Nat) (r : CodeM.Rd) (most : Int) (w : World) (hr : RdIn B 111 w g r) (hm0 : -9223372036854775808 ≤ most) (hm1 : most < 9223372036854775808) :
    Calls Try.prog 34 #[.pointer (some ⟨g, 0, none⟩), .int .i64 most] w (RdTextI B 111 g (r.text most).1 (r.text most).2 w) := by
  have hr0 := Lib.hid hr
  obtain ⟨l, e⟩ := r
  obtain ⟨A, n, c, hB, rfl, ⟨hc, hn⟩, hc2, hrow, hbd⟩ := hr
  have c0 := hB.cell 0
  have c1 := hB.cell 1
  simp only [List.getElem?_toArray, List.getElem?_cons_zero, List.getElem?_cons_succ] at c0 c1
  dsimp only at hn hrow hc c1 c0
  have f0 := hB.frozen 0
  have f1 := hB.frozen 1
  go_enter Try.func34, Try.ntmps34
  go_wp2_with fail
  refine (err_any g _ w hr0.out.at_).mono ?_
  rintro e1 w1 ⟨rfl, rfl⟩
  by_cases he : e = 0
  · subst he
    go_wp2_with fail
    refine (rcount_any g _ w hr0.out.at_).mono ?_
    rintro e1 w1 ⟨n, k, ok, rfl, hcnt, rfl⟩
    cases ok with
    | false =>
      go_wp2
      go_ret
      rw [CodeM.text_none hcnt.out]
      exact rdi_nil (hr0.out.fail 4) (grownBy_setCell w g 1 _)
    | true =>
      obtain ⟨hn64, hk0, hk, _, _⟩ := CodeM.cnt_some hcnt.out
      dsimp only at hk
      have hmx : IntKind.u64.wrap (max 0 most) = max 0 most := by rw [IntKind.wrap_u64]; omega
      have hmx2 : 0 ≤ max 0 most := by omega
      have hsb : IntKind.u64.wrap ((l.length : Int) - (k : Int)) = (l.length : Int) - (k : Int) := by rw [IntKind.wrap_u64]; omega
      by_cases h1 : max 0 most < (n : Int)
      · have HC := Lib.hid (CodeM.text_long (most := most) hcnt.out h1)
        go_wp2
        all_goals go_ret
        all_goals rw [HC.out]
        all_goals exact rdi_nil (hr0.out.fail 3) (grownBy_setCell w g 1 _)
      · by_cases h2 : l.length - k < n
        · have HC := Lib.hid (CodeM.text_short (most := most) hcnt.out h1 h2)
          go_wp2
          all_goals go_ret
          all_goals rw [HC.out]
          all_goals exact rdi_nil (hr0.out.fail 4) (grownBy_setCell w g 1 _)
        · have HC := Lib.hid (CodeM.text_ok (most := most) hcnt.out h1 h2)
          have hlt := hB.lt
          have hkn : k + n ≤ l.length := by omega
          have hln : ((l.drop k).take n).length = n := by rw [List.length_take, List.length_drop]; omega
          have HL := Lib.hid hln
          have HS := Lib.hid (row_cut (n := n) (k := k) hrow hc)
          have HB := Lib.hid (fun (w1 : World) (b1 : Below w.heap.size w w1) => rdi_moved (e := 0) (hB.below b1 hlt) hc hn hc2 (hrow.below b1) hbd (k + n) hkn)
          have HD := Lib.hid (fun (w1 : World) (b1 : Below w.heap.size w w1) => (hB.below b1 hlt).frozen 0)
          have HN := Lib.hid hcnt
          clear hB hln hcnt
          rcases Int.lt_or_le 0 most with hmp | hmp
          · rw [show max 0 most = most by omega] at *
            go_wp2_with fail
            · refine (clone_len A 0 n _ w (HS.out.1 (by assumption)) HL.out (by omega)).mono ?_
              rintro e w1 ⟨A1, n1, c1, rfl, hn1, h1, b1⟩
              have d0 := cell_below b1 c0
              have fz := HD.out w1 b1
              go_wp2
              all_goals go_ret
              all_goals rw [HC.out]
              all_goals first
                | exact rdi_text h1 hn1 b1 hlt rfl ((HB.out w1 b1).1 (by omega))
                | exact rdi_text h1 hn1 b1 hlt rfl (HB.out w1 b1).2
            · refine (clone_len (A.map fun x => x.add k) (c - k) n _ w HS.out.2 HL.out (by omega)).mono ?_
              rintro e w1 ⟨A1, n1, c1, rfl, hn1, h1, b1⟩
              have d0 := cell_below b1 c0
              have fz := HD.out w1 b1
              go_wp2
              all_goals go_ret
              all_goals rw [HC.out]
              all_goals first
                | exact rdi_text h1 hn1 b1 hlt rfl ((HB.out w1 b1).1 (by omega))
                | exact rdi_text h1 hn1 b1 hlt rfl (HB.out w1 b1).2
          · rw [show max 0 most = 0 by omega] at *
            obtain rfl : n = 0 := by omega
            simp only [Nat.add_zero] at HB HC
            go_wp2_with fail
            · refine (clone_len A 0 0 _ w (HS.out.1 (by assumption)) HL.out (by omega)).mono ?_
              rintro e w1 ⟨A1, n1, c1, rfl, hn1, h1, b1⟩
              have d0 := cell_below b1 c0
              have fz := HD.out w1 b1
              go_wp2
              all_goals go_ret
              all_goals rw [HC.out]
              all_goals first
                | exact rdi_text h1 hn1 b1 hlt rfl ((HB.out w1 b1).1 (by omega))
                | exact rdi_text h1 hn1 b1 hlt rfl (HB.out w1 b1).2
            · refine (clone_len (A.map fun x => x.add k) (c - k) 0 _ w HS.out.2 HL.out (by omega)).mono ?_
              rintro e w1 ⟨A1, n1, c1, rfl, hn1, h1, b1⟩
              have d0 := cell_below b1 c0
              have fz := HD.out w1 b1
              go_wp2
              all_goals go_ret
              all_goals rw [HC.out]
              all_goals first
                | exact rdi_text h1 hn1 b1 hlt rfl ((HB.out w1 b1).1 (by omega))
                | exact rdi_text h1 hn1 b1 hlt rfl (HB.out w1 b1).2
  · go_wp2
    go_ret
    rw [CodeM.text_err he]
    exact rdi_nil hr0.out (World.grownBy.refl _ _)
set_option maxRecDepth 100000 in
theorem refnumI_any {B : Nat} (g : Nat) (r : CodeM.Rd) (size : Nat) (w : World) (hr : RdIn B 73 w g r) (hs8 : size ≤ 8) :
    Calls Try.prog 39 #[.pointer (some ⟨g, 0, none⟩), .int .i64 (size : Int)] w (RdStepI B 73 g (.int .u64 ((r.fixed size).1 : Nat)) (r.fixed size).2 w) := by
  have hr0 := Lib.hid hr
  obtain ⟨l, e⟩ := r
  obtain ⟨A, n, c, hB, rfl, ⟨hc, hn⟩, hc2, hrow, hbd⟩ := hr
  have c0 := hB.cell 0
  have c1 := hB.cell 1
  simp only [List.getElem?_toArray, List.getElem?_cons_zero, List.getElem?_cons_succ] at c0 c1
  dsimp only at hn hrow hc c1 c0 hB
  have f0 := hB.frozen 0
  have f1 := hB.frozen 1
  by_cases he : e = 0
  · subst he
    by_cases hlt : l.length < size
    · go_enter Try.func39, Try.ntmps39
      go_wp2
      go_ret
      rw [CodeM.fixed_fail hlt]
      exact rdi_step rfl (hr0.out.fail 4)
    · have HM := Lib.hid (rdi_moved (e := 0) hB hc hn hc2 hrow hbd size (by omega))
      clear hB
      go_enter Try.func39, Try.ntmps39
      go_wp2
      go_loop [5, 6] (fun v i => ∃ k : Nat, k ≤ size ∧ i = .int .i64 ((k : Int) - 1) ∧ v = .int .u64 (CodeM.le ((l.take size).drop k) : Int)) (fun _ i => (intOf i + 1).toNat)
      case atStart => exact ⟨size, by omega, rfl, by rw [List.drop_eq_nil_of_le (by rw [List.length_take]; omega)]; rfl⟩
      case round =>
        obtain ⟨k, hk, rfl, rfl⟩ := hrel
        cases k with
        | zero =>
          rw [List.drop_zero]
          go_wp2
          · go_ret
            rw [CodeM.fixed_ok hlt]
            refine rdi_step rfl (HM.out.1 ?_)
            assumption
          · go_ret
            rw [CodeM.fixed_ok hlt]
            exact rdi_step rfl HM.out.2
        | succ k =>
          rw [show (((k + 1 : Nat) : Int) - 1) = (k : Int) by omega]
          obtain ⟨u, hu⟩ : ∃ s, l[k]? = some s := ⟨_, List.getElem?_eq_getElem (by omega)⟩
          obtain ⟨b, o, rfl, hcell⟩ := row_at hrow hu
          have HL := Lib.hid (CodeM.le_cons (k := size) hu (by omega))
          have hsm := CodeM.le_small (l := l) (k := size) (j := k + 1) hs8 (by omega)
          have hu8 := u.toNat_lt
          obtain ⟨N, hN⟩ : ∃ N, CodeM.le ((l.take size).drop (k + 1)) = N := ⟨_, rfl⟩
          rw [hN] at HL hsm ⊢
          have hw8 : IntKind.u64.wrap (u.toNat : Int) = (u.toNat : Int) := by rw [IntKind.wrap_u64]; omega
          clear hN
          go_wp2
          go_round
          case rel => exact ⟨k, by omega, by go_num, congrArg (Value.int .u64) (by rw [HL.out]; push_cast; rfl)⟩
          case measure => simp [intOf]
  · go_enter Try.func39, Try.ntmps39
    go_wp2
    go_ret
    rw [CodeM.fixed_err he]
    exact ⟨rfl, hr0.out, World.grownBy.refl _ _⟩
set_option maxRecDepth 100000 in
theorem refuvI_any {B : Nat} (g : Nat) (r : CodeM.Rd) (w : World) (hr : RdIn B 73 w g r) :
    Calls Try.prog 41 #[.pointer (some ⟨g, 0, none⟩)] w (RdStepI B 73 g (.int .u64 ((r.uv).1 : Nat)) (r.uv).2 w) := by
  have hr0 := Lib.hid hr
  obtain ⟨l, e⟩ := r
  obtain ⟨A, n, c, hB, rfl, ⟨hc, hn⟩, hc2, hrow, hbd⟩ := hr
  have c0 := hB.cell 0
  have c1 := hB.cell 1
  simp only [List.getElem?_toArray, List.getElem?_cons_zero, List.getElem?_cons_succ] at c0 c1
  dsimp only at hn hrow hc c1 c0 hB
  have f0 := hB.frozen 0
  have f1 := hB.frozen 1
  by_cases he : e = 0
  · subst he
    go_enter Try.func41, Try.ntmps41
    go_wp2_with fail
    refine (refcount_any A c l w hrow hn).mono ?_
    rintro e1 w1 ⟨n, k, rfl, hcnt, rfl⟩
    by_cases hk0 : k = 0
    · subst hk0
      go_wp2
      go_ret
      rw [CodeM.uv_fail hcnt.out]
      exact rdi_step rfl (hr0.out.fail 4)
    · have hcn := hcnt.out
      rw [if_neg hk0] at hcn
      have hk := (CodeM.cnt_some hcn).2.2.1
      have HM := Lib.hid (rdi_moved (e := 0) hB hc hn hc2 hrow hbd k hk)
      have HC := Lib.hid hcn
      clear hB hrow hcn hcnt
      go_wp2
      · go_ret
        rw [CodeM.uv_ok HC.out]
        refine rdi_step rfl (HM.out.1 ?_)
        assumption
      · go_ret
        rw [CodeM.uv_ok HC.out]
        exact rdi_step rfl HM.out.2
  · go_enter Try.func41, Try.ntmps41
    go_wp2
    go_ret
    rw [CodeM.uv_err he]
    exact ⟨rfl, hr0.out, World.grownBy.refl _ _⟩
set_option maxRecDepth 100000 in
set_option maxHeartbeats 2000000 in
theorem reftextI_any {B : Nat} (g : Nat) (r : CodeM.Rd) (most : Int) (w : World) (hr : RdIn B 73 w g r) (hm0 : -9223372036854775808 ≤ most) (hm1 : most < 9223372036854775808) :
    Calls Try.prog 42 #[.pointer (some ⟨g, 0, none⟩), .int .i64 most] w (RdTextI B 73 g (r.text most).1 (r.text most).2 w) := by
  have hr0 := Lib.hid hr
  obtain ⟨l, e⟩ := r
  obtain ⟨A, n, c, hB, rfl, ⟨hc, hn⟩, hc2, hrow, hbd⟩ := hr
  have c0 := hB.cell 0
  have c1 := hB.cell 1
  simp only [List.getElem?_toArray, List.getElem?_cons_zero, List.getElem?_cons_succ] at c0 c1
  dsimp only at hn hrow hc c1 c0 hB
  have f0 := hB.frozen 0
  have f1 := hB.frozen 1
  by_cases he : e = 0
  · subst he
    go_enter Try.func42, Try.ntmps42
    go_wp2_with fail
    refine (refcount_any A c l w hrow hn).mono ?_
    rintro e1 w1 ⟨n, k, rfl, hcnt, rfl⟩
    by_cases hk0 : k = 0
    · subst hk0
      go_wp2
      go_ret
      rw [CodeM.text_none hcnt.out]
      exact rdi_nil (hr0.out.fail 4) (grownBy_setCell w g 1 _)
    · have hcn := hcnt.out
      rw [if_neg hk0] at hcn
      obtain ⟨hn64, _, hk, _, _⟩ := CodeM.cnt_some hcn
      clear hcnt
      have hmx : IntKind.u64.wrap (max 0 most) = max 0 most := by rw [IntKind.wrap_u64]; omega
      have hmx2 : 0 ≤ max 0 most := by omega
      have hsb : IntKind.u64.wrap ((l.length : Int) - (k : Int)) = (l.length : Int) - (k : Int) := by rw [IntKind.wrap_u64]; omega
      by_cases h1 : max 0 most < (n : Int)
      · have HC := Lib.hid (CodeM.text_long (most := most) hcn h1)
        clear hcn
        go_wp2
        all_goals go_ret
        all_goals rw [HC.out]
        all_goals exact rdi_nil (hr0.out.fail 3) (grownBy_setCell w g 1 _)
      · by_cases h2 : l.length - k < n
        · have HC := Lib.hid (CodeM.text_short (most := most) hcn h1 h2)
          clear hcn
          go_wp2
          all_goals go_ret
          all_goals rw [HC.out]
          all_goals exact rdi_nil (hr0.out.fail 4) (grownBy_setCell w g 1 _)
        · have HC := Lib.hid (CodeM.text_ok (most := most) hcn h1 h2)
          clear hcn
          have hlt := hB.lt
          have hkn : k + n ≤ l.length := by omega
          have hln : ((l.drop k).take n).length = n := by rw [List.length_take, List.length_drop]; omega
          have HL := Lib.hid hln
          have HS := Lib.hid (row_cut (n := n) (k := k) hrow hc)
          have HB := Lib.hid (fun (w1 : World) (b1 : Below w.heap.size w w1) => rdi_moved (e := 0) (hB.below b1 hlt) hc hn hc2 (hrow.below b1) hbd (k + n) hkn)
          have HD := Lib.hid (fun (w1 : World) (b1 : Below w.heap.size w w1) => (hB.below b1 hlt).frozen 0)
          have ca := (hB.alloc (.cells #[] 5)).cell 0
          simp only [List.getElem?_toArray, List.getElem?_cons_zero] at ca
          clear hB hln
          by_cases hck : c = k
          · obtain rfl : n = 0 := by omega
            subst hck
            have hlc : l.length = c := by omega
            have HX : Hid (∀ (w1 : World), Below w.heap.size w w1 → RdIn B 73 (w1.setCell ⟨g, 0, none⟩ (.slice A 0 0)) g ⟨l.drop c, 0⟩) := Lib.hid (fun w1 b1 => by
              have := (HB.out w1 b1).1 rfl
              rw [Nat.add_zero, hlc, Nat.sub_self] at this
              exact this)
            have HC' := HC.out
            rw [List.take_zero, Nat.add_zero] at HC'
            have HC := Lib.hid HC'
            clear HC' HB HS hlc
            rcases Int.lt_or_le 0 most with hmp | hmp
            · rw [show max 0 most = most by omega] at *
              go_wp2_with (at_builtin; refine wpl_app' _ rfl (.tmp 47) (.tmp 57) rfl w.heap.size (some ⟨w.heap.size, 0, none⟩) 0 [] 0 rfl rfl (Own.made w #[] 0 (Nat.le_refl _) (by unfold maxLen; omega) rfl) A 0 [] 0 rfl rfl (.inl rfl) (by omega) (by simp) ?_; intro A1 c1 w1 h1 hg1 _; have b1 : Below w.heap.size w w1 := ((Below.refl w.heap.size w).alloc (Nat.le_refl _) (.cells #[] 5)).grown hg1 (by simp) (by intro k hk; simp [Value.ownBlock] at hk; omega); rw [List.nil_append] at h1; have d0 := cell_below b1 c0; have fz := HD.out w1 b1; clear hg1)
              all_goals go_ret
              all_goals rw [HC.out]
              all_goals exact rdi_text h1 (Lib.hid rfl) b1 hlt rfl (HX.out w1 b1)
            · rw [show max 0 most = 0 by omega] at *
              go_wp2_with (at_builtin; refine wpl_app' _ rfl (.tmp 47) (.tmp 57) rfl w.heap.size (some ⟨w.heap.size, 0, none⟩) 0 [] 0 rfl rfl (Own.made w #[] 0 (Nat.le_refl _) (by unfold maxLen; omega) rfl) A 0 [] 0 rfl rfl (.inl rfl) (by omega) (by simp) ?_; intro A1 c1 w1 h1 hg1 _; have b1 : Below w.heap.size w w1 := ((Below.refl w.heap.size w).alloc (Nat.le_refl _) (.cells #[] 5)).grown hg1 (by simp) (by intro k hk; simp [Value.ownBlock] at hk; omega); rw [List.nil_append] at h1; have d0 := cell_below b1 c0; have fz := HD.out w1 b1; clear hg1)
              all_goals go_ret
              all_goals rw [HC.out]
              all_goals exact rdi_text h1 (Lib.hid rfl) b1 hlt rfl (HX.out w1 b1)
          · skip
            rcases Int.lt_or_le 0 most with hmp | hmp
            · rw [show max 0 most = most by omega] at *
              go_wp2_with ((at_builtin; refine wpl_app' _ rfl (.tmp 47) (.tmp 57) rfl w.heap.size (some ⟨w.heap.size, 0, none⟩) 0 [] 0 rfl rfl (Own.made w #[] 0 (Nat.le_refl _) (by unfold maxLen; omega) rfl) (A.map fun x => x.add k) (c - k) ((l.drop k).take n) n (by first | rfl | simp [Act.eval]) HL.out (Row.alloc HS.out.2 _) (by omega) (by simp) ?_; intro A1 c1 w1 h1 hg1 _; have b1 : Below w.heap.size w w1 := ((Below.refl w.heap.size w).alloc (Nat.le_refl _) (.cells #[] 5)).grown hg1 (by simp) (by intro k hk; simp [Value.ownBlock] at hk; omega); rw [List.nil_append] at h1; have d0 := cell_below b1 c0; have fz := HD.out w1 b1; clear hg1))
              all_goals go_ret
              all_goals rw [HC.out]
              all_goals first
                | exact rdi_text h1 HL b1 hlt rfl ((HB.out w1 b1).1 (by first | assumption | omega))
                | exact rdi_text h1 HL b1 hlt rfl (HB.out w1 b1).2
            · rw [show max 0 most = 0 by omega] at *
              go_wp2_with ((at_builtin; refine wpl_app' _ rfl (.tmp 47) (.tmp 57) rfl w.heap.size (some ⟨w.heap.size, 0, none⟩) 0 [] 0 rfl rfl (Own.made w #[] 0 (Nat.le_refl _) (by unfold maxLen; omega) rfl) (A.map fun x => x.add k) (c - k) ((l.drop k).take n) n (by first | rfl | simp [Act.eval]) HL.out (Row.alloc HS.out.2 _) (by omega) (by simp) ?_; intro A1 c1 w1 h1 hg1 _; have b1 : Below w.heap.size w w1 := ((Below.refl w.heap.size w).alloc (Nat.le_refl _) (.cells #[] 5)).grown hg1 (by simp) (by intro k hk; simp [Value.ownBlock] at hk; omega); rw [List.nil_append] at h1; have d0 := cell_below b1 c0; have fz := HD.out w1 b1; clear hg1))
              all_goals go_ret
              all_goals rw [HC.out]
              all_goals first
                | exact rdi_text h1 HL b1 hlt rfl ((HB.out w1 b1).1 (by first | assumption | omega))
                | exact rdi_text h1 HL b1 hlt rfl (HB.out w1 b1).2
  · go_enter Try.func42, Try.ntmps42
    go_wp2
    go_ret
    rw [CodeM.text_err he]
    exact rdi_nil hr0.out (World.grownBy.refl _ _)
end Go.Proofs.Ytaadfalklddhcaa
/-! part -/
namespace Go.Proofs.Ytaadfalklddhcaa
open Go.RowKit Go.Sort Go.Lib
set_option linter.unusedVariables false
/-- Both readers are the same. -/
def Two (B : Nat) (w : World) (g g2 : Nat) (r : CodeM.Rd) : Prop := RdIn B 111 w g r ∧ RdIn B 73 w g2 r
/-- What a question answers. -/
def AskPost (B C g g2 : Nat) (w : World) (e : Ending) (w' : World) : Prop := e = .returned (.bool true) ∧ (∃ r, Two B w' g g2 r) ∧ Below C w w'
theorem Two.below {B g g2 : Nat} {w w' : World} {r : CodeM.Rd} (h : Two B w g g2 r) (hb : Below w.heap.size w w') : Two B w' g g2 r := ⟨h.1.below hb, h.2.below hb⟩
theorem Two.above {B g g2 b : Nat} {w w' : World} {r : CodeM.Rd} (h : Two B w g g2 r) (hg : w.grownBy w' (some b)) (h1 : b ≠ g) (h2 : b ≠ g2) (hb : B ≤ b) : Two B w' g g2 r := ⟨h.1.above hg h1 hb, h.2.above hg h2 hb⟩
end Go.Proofs.Ytaadfalklddhcaa
/-! part -/
namespace Go.Proofs.Ytaadfalklddhcaa
open Go.RowKit Go.Sort Go.Lib
set_option linter.unusedVariables false
/-- A question. -/
structure Que where
  kind : Int
  most : Int
  h0 : -9223372036854775808 ≤ most
  h1 : most < 9223372036854775808
def Que.cells (q : Que) : List Value := [.int .i64 q.kind, .int .i64 q.most]
theorem ques_get : ∀ (l : List Que) (k : Nat) (s : Que), l[k]? = some s → (l.flatMap Que.cells)[k * 2]? = some (.int .i64 s.kind) ∧ (l.flatMap Que.cells)[k * 2 + 1]? = some (.int .i64 s.most)
  | a :: l, 0, s, h => by simp at h; subst h; simp [Que.cells]
  | a :: l, k + 1, s, h => by
    have ih := ques_get l k s (by simpa using h)
    have e : (a :: l).flatMap Que.cells = .int .i64 a.kind :: .int .i64 a.most :: l.flatMap Que.cells := rfl
    rw [e, show (k + 1) * 2 = k * 2 + 1 + 1 by omega]
    simpa using ih
  | [], _, _, h => by simp at h
theorem row_que {w : World} {A : Option Addr} {l : List Que} (h : Row w A (l.flatMap Que.cells)) {k : Nat} {s : Que} (hs : l[k]? = some s) :
    ∃ b o, A = some ⟨b, o, none⟩ ∧ w.cell? ⟨b, o + k * 2, none⟩ = some (.int .i64 s.kind) ∧ w.cell? ⟨b, o + k * 2 + 1, none⟩ = some (.int .i64 s.most) := by
  obtain ⟨g1, g2⟩ := ques_get l k s hs
  rcases h with h | ⟨b, o, e, hc⟩
  · rw [h] at g1; simp at g1
  · exact ⟨b, o, e, hc _ _ g1, by rw [Nat.add_assoc]; exact hc _ _ g2⟩
/-- What lent returns. -/
def LentPost (l : List UInt8) (w : World) (e : Ending) (w' : World) : Prop := ∃ g c', e = .returned (.slice (some ⟨g, 0, none⟩) l.length c') ∧ l.length + 2 ≤ c' ∧ c' ≤ maxLen ∧ w.heap.size ≤ g ∧ g < w'.heap.size ∧ Own w' w.heap.size (some ⟨g, 0, none⟩) c' (l ++ [77, 78]) ∧ Below w.heap.size w w'
/-- A new reader, its bytes new memory. -/
def NewRO (l : List UInt8) (w : World) (e : Ending) (w' : World) : Prop := ∃ g A c, e = .returned (.pointer (some ⟨g, 0, none⟩)) ∧ w.heap.size ≤ g ∧ g < w'.heap.size ∧ Blk w' g 111 #[.slice A l.length c, .int .i64 0] ∧ Own w' w.heap.size A c l ∧ Below w.heap.size w w'
set_option maxRecDepth 100000 in
theorem newreaderO_any (A : Option Addr) (c : Nat) (l : List UInt8) (w : World) (hr : Row w A (bs l)) (hc : l.length ≤ 140737488355328) :
    Calls Try.prog 28 #[.slice A l.length c] w (NewRO l w) := by
  go_enter Try.func28, Try.ntmps28
  go_wp2_with fail
  refine (clone_any A c l w hr hc).mono ?_
  rintro e w1 ⟨A1, n1, c1, rfl, hn1, h1, b1⟩
  have hs := b1.size
  go_wp2
  go_ret
  obtain rfl := hn1.out
  exact ⟨w1.heap.size, A1, c1, rfl, by omega, by simp, Blk.new w1 _ _, h1.alloc _, b1.alloc hs _⟩
end Go.Proofs.Ytaadfalklddhcaa
/-! part -/
namespace Go.Proofs.Ytaadfalklddhcaa
open Go.RowKit
set_option linter.unusedVariables false
set_option maxRecDepth 100000 in
theorem reffixed_any (n size : Nat) (w : World) (hn : n < 18446744073709551616) (hs8 : size ≤ 8) :
    Calls Try.prog 80 #[.int .u64 (n : Int), .int .i64 (size : Int)] w (NewB (CodeM.fx size n) w) := by
  go_enter Try.func80, Try.ntmps80
  go_wp2
  go_loopw [5, 6] (fun b i wr => ∃ (j : Nat) (A2 : Option Addr) (c2 : Nat), j ≤ size ∧ i = .int .i64 j ∧ b = .slice A2 j c2 ∧ Own wr w.heap.size A2 c2 (CodeM.fx j n) ∧ Below w.heap.size w wr) (fun _ i _ => size - (intOf i).toNat)
  case atStart => exact ⟨0, none, 0, by omega, rfl, rfl, Own.nil_ _ _, Below.refl _ _⟩
  case round =>
    obtain ⟨j, A2, c2, hj, rfl, rfl, hx, hbel⟩ := hrel
    have hs := hbel.size
    have HL := Lib.hid (CodeM.fx_length j n)
    by_cases hlt : j < size
    · have hfx := Lib.hid (CodeM.fx_succ j n)
      have hsh := CodeM.shr_byte n j
      obtain ⟨x, hx2⟩ : ∃ x, CodeM.byte (n / 256 ^ j % 256) = x := ⟨_, rfl⟩
      rw [hx2] at hsh
      have HX2 := Lib.hid hx2
      clear hx2
      go_wp2_with (at_builtin; refine wpl_app' _ rfl (.tmp 12) (.tmp 19) rfl w.heap.size A2 c2 (CodeM.fx j n) j rfl HL.out (hx.alloc _) (some ⟨wr.heap.size, 0, none⟩) 1 [x] 1 rfl rfl (row_one wr _ _ rfl) ?_ ?_ ?_)
      · omega
      · simp; omega
      intro A3 c3 w3 h3 hg3 _
      have hb3 : Below w.heap.size w w3 := (hx.alloc _).grown_below (by rw [HL.out]) hg3 (hbel.alloc hs _) (Nat.le_refl _) (by simp; omega)
      go_wp2
      go_roundw
      case rel => exact ⟨j + 1, A3, c3, by omega, by go_num, rfl, by rw [hfx.out, HX2.out]; exact h3, hb3⟩
      case measure => simp [intOf]; omega
    · obtain rfl : j = size := by omega
      go_wp2
      go_ret
      exact ⟨A2, _, c2, rfl, Lib.hid HL.out, hx, hbel⟩
theorem rem128 (m : Nat) : ((CodeM.byte (m % 128 + 128)).toNat : Int) = ((m % 128 : Nat) : Int) + 128 := by
  rw [CodeM.ofNat_toNat _ (by omega)]; omega
set_option maxRecDepth 100000 in
theorem refputuv_any (n : Nat) (w : World) (hn : n < 18446744073709551616) :
    Calls Try.prog 81 #[.int .u64 (n : Int)] w (NewB (CodeM.uv n) w) := by
  go_enter Try.func81, Try.ntmps81
  go_wp2
  go_loopw [0, 3] (fun v b wr => ∃ (m f : Nat) (A2 : Option Addr) (c2 : Nat) (x : List UInt8), v = .int .u64 (m : Int) ∧ m < 18446744073709551616 ∧ b = .slice A2 x.length c2 ∧ Own wr w.heap.size A2 c2 x ∧ Below w.heap.size w wr ∧ CodeM.uv n = x ++ CodeM.uvF f m ∧ m < 2 ^ (7 * f + 1) ∧ f ≤ 9 ∧ x.length + f = 9) (fun v _ _ => (intOf v).toNat)
  case atStart => exact ⟨n, 9, none, 0, [], rfl, hn, rfl, Own.nil_ _ _, Below.refl _ _, rfl, by omega, by omega, rfl⟩
  case round =>
    obtain ⟨m, f, A2, c2, x, rfl, hm, rfl, hx, hbel, he, hf, hf9, hxf⟩ := hrel
    have hs := hbel.size
    by_cases hlt : m < 128
    · have hu : CodeM.uvF f m = [CodeM.byte m] := by
        cases f with
        | zero => unfold CodeM.uvF; rw [Nat.mod_eq_of_lt (by omega)]
        | succ f => unfold CodeM.uvF; rw [if_pos hlt]
      have HE := Lib.hid (he.trans (by rw [hu]))
      have hb : ((CodeM.byte m).toNat : Int) = (m : Int) := by rw [CodeM.ofNat_toNat m (by omega)]
      have HB := Lib.hid hb
      clear he hf hb hu
      go_wp2_with (at_builtin; refine wpl_app _ rfl (.tmp 15) (.tmp 18) rfl w.heap.size A2 c2 x rfl (hx.alloc _) (some ⟨wr.heap.size, 0, none⟩) 1 [CodeM.byte m] rfl (row_one wr _ _ HB.out.symm) ?_ ?_ ?_)
      · simp; omega
      · simp; omega
      intro A3 c3 w3 h3 hg3 _
      have hb3 : Below w.heap.size w w3 := (hx.alloc _).grown_below rfl hg3 (hbel.alloc hs _) (Nat.le_refl _) (by simp; omega)
      go_wp2
      go_ret
      refine ⟨A3, _, c3, rfl, Lib.hid ?_, ?_, hb3⟩
      · rw [HE.out, List.length_append]; rfl
      · rw [HE.out]; exact h3
    · obtain ⟨f, rfl⟩ : ∃ g, f = g + 1 := ⟨f - 1, by
        rcases Nat.eq_zero_or_pos f with h | h
        · subst h; omega
        · omega⟩
      have hu : CodeM.uvF (f + 1) m = CodeM.byte (m % 128 + 128) :: CodeM.uvF f (m / 128) := by
        conv => lhs; unfold CodeM.uvF
        rw [if_neg hlt]
      have HE := Lib.hid (he.trans (by rw [hu]))
      have HR := Lib.hid (rem128 m)
      clear he hu
      go_wp2_with (at_builtin; refine wpl_app _ rfl (.tmp 6) (.tmp 11) rfl w.heap.size A2 c2 x rfl (hx.alloc _) (some ⟨wr.heap.size, 0, none⟩) 1 [CodeM.byte (m % 128 + 128)] rfl (row_one wr _ _ (by rw [HR.out]; go_num)) ?_ ?_ ?_)
      · simp; omega
      · simp; omega
      intro A3 c3 w3 h3 hg3 _
      have hb3 : Below w.heap.size w w3 := (hx.alloc _).grown_below rfl hg3 (hbel.alloc hs _) (Nat.le_refl _) (by simp; omega)
      have hmd : m / 128 < 2 ^ (7 * f + 1) := by
        have e : 2 ^ (7 * (f + 1) + 1) = 2 ^ (7 * f + 1) * 128 := by rw [show 7 * (f + 1) + 1 = (7 * f + 1) + 7 by omega, Nat.pow_add]
        rw [e] at hf
        exact Nat.div_lt_of_lt_mul (by rw [Nat.mul_comm]; exact hf)
      have HM := Lib.hid hmd
      clear hmd hf
      go_wp2
      go_roundw
      case rel => exact ⟨m / 128, f, A3, c3, x ++ [CodeM.byte (m % 128 + 128)], by go_num, by omega, by rw [List.length_append]; rfl, h3, hb3, by rw [HE.out, List.append_assoc]; rfl, HM.out, by omega, by rw [List.length_append]; simp; omega⟩
      case measure => simp [intOf]; omega
set_option maxRecDepth 100000 in
theorem reftxt_any (A : Option Addr) (c : Nat) (s : List UInt8) (w : World) (hr : Row w A (bs s)) (hc : s.length ≤ 140737488355000) :
    Calls Try.prog 83 #[.slice A s.length c] w (NewB (CodeM.tx s) w) := by
  go_enter Try.func83, Try.ntmps83
  go_wp2_with fail
  refine (refputuv_any s.length w (by omega)).mono ?_
  rintro e w1 ⟨A1, n1, c1, rfl, hn1, h1, b1⟩
  have hu := (CodeM.uv_length s.length).2
  have hs := b1.size
  have hle : n1 ≤ 10 := by have := hn1.out; omega
  clear hu
  go_wp2_with (at_builtin; refine wpl_app' _ rfl (.tmp 8) (.tmp 9) rfl w.heap.size A1 c1 (CodeM.uv s.length) n1 rfl hn1.out h1 A c s s.length rfl rfl (hr.below b1) ?_ ?_ ?_)
  · omega
  · omega
  intro A3 c3 w3 h3 hg3 _
  have hb3 : Below w.heap.size w w3 := h1.grown_below (by rw [hn1.out]) hg3 b1 (Nat.le_refl _) (by omega)
  go_wp2
  go_ret
  exact ⟨A3, _, c3, rfl, Lib.hid (by unfold CodeM.tx; rw [List.length_append, hn1.out]), h3, hb3⟩
end Go.Proofs.Ytaadfalklddhcaa
/-! part -/
namespace Go.Proofs.Ytaadfalklddhcaa
open Go.RowKit Go.Sort Go.Lib
set_option linter.unusedVariables false
/-- append at a step of a region that draws its order. -/
theorem step_app' (w : World) {ops : Array Oper} {o : Oper} {a : Act} {K : Act → World → Prop} {Q : Exit → Act → World → Prop} {E : Prop} (hgd : o.guard = none) (s x : Operand)
    (ho : o.op = .call { callee := .builtin .append, args := #[s, x], argTypes := #[22, 22] })
    (base : Nat) (A : Option Addr) (c : Nat) (l : List UInt8) (n : Nat) (hs : a.eval s = .slice A n c) (hn : l.length = n) (hown : Own w base A c l)
    (A2 : Option Addr) (c2 : Nat) (m : List UInt8) (k : Nat) (hx : a.eval x = .slice A2 k c2) (hk : m.length = k) (hr : Row w A2 (bs m))
    (hlen : n + k ≤ 140737488355328) (hbase : base ≤ w.heap.size)
    (h : ∀ A' c' w', Own w' base A' c' (l ++ m) → w.grownBy w' (Value.slice A n c).ownBlock → K (a.put o.dst (.slice A' (n + k) c')) w') :
    if Region.wanted o (yielded ops a.tmps) = true then Oper.wp Try.prog o a w K Q else E := by
  have hw : Region.wanted o (yielded ops a.tmps) = true := by simp [Region.wanted, hgd]
  rw [if_pos hw]
  subst hn hk
  obtain ⟨i0, hi0, hz0, hz1, hz2⟩ := info_parts info_u8
  refine wp_append_row w s x _ ho base 5 i0 _ 1 1 Try.underlying22 hi0 hz0 hz1 hz2 rfl (by omega) _ l.length (bs l) hs hown A2 m.length c2 (bs m) hx (by rw [bs_length]; omega) hr (bs_one m)
    (by unfold maxLen; omega) (by omega) hbase fun A' c' w' h1 h2 h3 => h A' c' w' ?_ h2
  unfold Own
  rw [List.length_append, bs_append]
  exact h1
theorem fx_mod (k n : Nat) : CodeM.fx k (n % 256 ^ k) = CodeM.fx k n := by
  have h := CodeM.fx_le (CodeM.fx k n)
  rwa [CodeM.fx_length, CodeM.le_fx] at h
/-- A slice whose bytes begin its block. -/
structure Pt where
  g : Nat
  n : Nat
  c : Nat
  l : List UInt8
def Pt.val (p : Pt) : Value := .slice (some ⟨p.g, 0, none⟩) p.n p.c
def Lst (w : World) (G : Nat) (ps : List Pt) : Prop := Blk w G 22 (ps.map Pt.val).toArray
theorem Lst.cell {w : World} {G : Nat} {ps : List Pt} (h : Lst w G ps) {k : Nat} {p : Pt} (hp : ps[k]? = some p) : w.cell? ⟨G, k, none⟩ = some (.slice (some ⟨p.g, 0, none⟩) p.n p.c) := by
  have := Blk.cell h k
  rw [this]
  simp [hp, Pt.val]
/-- What holds ahead of round k: nobody has written over the slices from k on. -/
structure Inv (w0 : World) (s0 gx gy G1 G2 : Nat) (x y : List UInt8) (Ps Qs : List Pt) (k : Nat) (w : World) : Prop where
  l1 : Lst w G1 Ps
  l2 : Lst w G2 Qs
  o1 : ∀ p ∈ Ps.drop k, Own w s0 (some ⟨p.g, 0, none⟩) p.c p.l
  o2 : ∀ q ∈ Qs, Row w (some ⟨q.g, 0, none⟩) (bs q.l)
  rx : Row w (some ⟨gx, 0, none⟩) (bs x)
  ry : Row w (some ⟨gy, 0, none⟩) (bs y)
  bel : Below w0.heap.size w0 w
  size : s0 ≤ w.heap.size
section
variable {w0 w w' : World} {s0 gx gy G1 G2 : Nat} {x y : List UInt8} {Ps Qs : List Pt} {k : Nat}
theorem Inv.below (h : Inv w0 s0 gx gy G1 G2 x y Ps Qs k w) (hb : Below w.heap.size w w') : Inv w0 s0 gx gy G1 G2 x y Ps Qs k w' :=
  ⟨Blk.below h.l1 hb (Blk.lt h.l1), Blk.below h.l2 hb (Blk.lt h.l2), fun p hp => (h.o1 p hp).below hb, fun q hq => (h.o2 q hq).below hb, h.rx.below hb, h.ry.below hb, below_step h.bel hb (Nat.le_refl _), Nat.le_trans h.size hb.size⟩
theorem Inv.next (h : Inv w0 s0 gx gy G1 G2 x y Ps Qs k w) : Inv w0 s0 gx gy G1 G2 x y Ps Qs (k + 1) w :=
  ⟨h.l1, h.l2, fun p hp => h.o1 p (by rw [← List.drop_drop] at hp; exact List.mem_of_mem_drop hp), h.o2, h.rx, h.ry, h.bel, h.size⟩
theorem row_apart2 {A : Nat} {g : Nat} {l : List UInt8} (h : Row w (some ⟨A, 0, none⟩) (bs l)) (hg : w.grownBy w' (some g)) (hne : A ≠ g) : Row w' (some ⟨A, 0, none⟩) (bs l) := by
  rcases h with h | ⟨b, o, e, hc⟩
  · exact .inl h
  · refine .inr ⟨b, o, e, fun j u hu => ?_⟩
    injection e with e
    injection e with e1 e2
    subst e1 e2
    exact hg.cell (hc j u hu) (by simpa using hne)
theorem own_apart {b : Nat} {c g g' : Nat} {l : List UInt8} (h : Own w b (some ⟨g', 0, none⟩) c l) (hg : w.grownBy w' (some g)) (hne : g' ≠ g) : Own w' b (some ⟨g', 0, none⟩) c l :=
  World.ownsRow.kept h hg (.inr (by simp only [Value.ownBlock]; intro q; injection q with q; exact hne q))
/-- A store into a slice that is looked at no more. -/
theorem Inv.store {g : Nat} (h : Inv w0 s0 gx gy G1 G2 x y Ps Qs (k + 1) w) (hg : w.grownBy w' (some g)) (h1 : w0.heap.size ≤ g) (h2 : g ≠ G1) (h3 : g ≠ G2) (h4 : gx ≠ g) (h5 : gy ≠ g)
    (h6 : ∀ p ∈ Ps.drop (k + 1), p.g ≠ g) (h7 : ∀ q ∈ Qs, q.g ≠ g) : Inv w0 s0 gx gy G1 G2 x y Ps Qs (k + 1) w' :=
  ⟨Blk.grown h.l1 hg (by intro q; injection q with q; exact h2 q.symm), Blk.grown h.l2 hg (by intro q; injection q with q; exact h3 q.symm), fun p hp => own_apart (h.o1 p hp) hg (h6 p hp), fun q hq => row_apart2 (h.o2 q hq) hg (h7 q hq),
    row_apart2 h.rx hg h4, row_apart2 h.ry hg h5, h.bel.grown hg h.bel.size (fun k hk => by injection hk with hk; omega), Nat.le_trans h.size hg.size⟩
end
end Go.Proofs.Ytaadfalklddhcaa
/-! part -/
namespace Go.Proofs.Ytaadfalklddhcaa
open Go.RowKit Go.Sort Go.Lib
set_option linter.unusedVariables false
set_option maxRecDepth 100000 in
theorem left_any (g : Nat) (r : CodeM.Rd) (w : World) (hr : RdAt 111 w g r) :
    Calls Try.prog 90 #[.pointer (some ⟨g, 0, none⟩)] w fun e w' => e = .returned (.int .i64 (r.l.length : Int)) ∧ w = w' := by
  obtain ⟨A, n, c, hB, rfl, hc, hc2, hrow⟩ := hr
  have c0 := hB.cell 0
  simp only [List.getElem?_toArray, List.getElem?_cons_zero] at c0
  clear hB
  go_enter Try.func90, Try.ntmps90
  go_wp2
  go_ret
  exact ⟨rfl, rfl⟩
end Go.Proofs.Ytaadfalklddhcaa
