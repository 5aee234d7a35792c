/-
  What the reader's text is.
  Conditions: the reader lies in a block of its own; its bytes lie in memory as a list.
-/
import Derived.Test.YtaadfalklddhcaaCodeW9
namespace Go.Proofs.Ytaadfalklddhcaa
open Go.RowKit Go.Sort Go.Lib
set_option linter.unusedVariables false
/-- A reader's text: new memory; the reader alone has changed. -/
def RdText (t : TypeId) (g : Nat) (s : List UInt8) (r' : CodeM.Rd) (w : World) (e : Ending) (w' : World) : Prop := ∃ A n c, e = .returned (.slice A n c) ∧ Hid (s.length = n) ∧ Own w' w.heap.size A c s ∧ RdAt t w' g r' ∧ w.grownBy w' (some g)
theorem Own.kept {w w' : World} {base : Nat} {A : Option Addr} {c : Nat} {l : List UInt8} {g : Nat} (h : Own w base A c l) (hg : w.grownBy w' (some g)) (hlt : g < base) : Own w' base A c l := by
  refine World.ownsRow.kept h hg ?_
  by_cases hl : l = []
  · rcases h.2 with ⟨hv, hn⟩ | ⟨g', cap, cur, hv, hb, _⟩
    · left; injection hv with e; rw [e]; rfl
    · right; injection hv with e; rw [e]; simp only [Value.ownBlock]; intro q; injection q with q; omega
  · obtain ⟨g', rfl, hb, _⟩ := h.some_ hl
    right; simp only [Value.ownBlock]; intro q; injection q with q; omega
theorem rd_nil {t : TypeId} {g : Nat} {r' : CodeM.Rd} {w w' : World} (h : RdAt t w' g r') (hg : w.grownBy w' (some g)) : RdText t g [] r' w (.returned (.slice none 0 0)) w' := ⟨none, 0, 0, rfl, Lib.hid rfl, Own.nil_ _ _, h, hg⟩
theorem rd_text {t : TypeId} {g b n1 c1 : Nat} {A1 : Option Addr} {u : Value} {s : List UInt8} {r' : CodeM.Rd} {w w1 w' : World} (h1 : Own w1 w.heap.size A1 c1 s) (hn : Hid (s.length = n1)) (b1 : Below w.heap.size w w1) (hg : g < w.heap.size) (hv : w' = w1.setCell ⟨g, b, none⟩ u) (h : RdAt t w' g r') :
    RdText t g s r' w (.returned (.slice A1 n1 c1)) w' := by
  subst hv
  exact ⟨A1, n1, c1, rfl, hn, h1.kept (grownBy_setCell w1 g b u) hg, h, grownBy_setB (grownBy_below (World.grownBy.refl w (some g)) b1) b u⟩
theorem clone_len (A : Option Addr) (c n : Nat) (l : List UInt8) (w : World) (hr : Row w A (bs l)) (hl : l.length = n) (hc : n ≤ 140737488355328) :
    Calls Try.prog 87 #[.slice A n c] w (NewB l w) := by
  subst hl; exact clone_any A c l w hr hc
theorem row_cut {w : World} {A : Option Addr} {l : List UInt8} {c k n : Nat} (h : Row w A (bs l)) (hc : l.length ≤ c) : (c = k → Row w A (bs ((l.drop k).take n))) ∧ Row w (A.map fun x => x.add k) (bs ((l.drop k).take n)) := by
  refine ⟨?_, ?_⟩
  · rintro rfl
    left; rw [List.drop_eq_nil_of_le hc]; simp [bs]
  · rw [bs_take]; exact (row_drop' h k).take n
set_option maxRecDepth 100000 in
theorem text_any (g : Nat) (r : CodeM.Rd) (most : Int) (w : World) (hr : RdAt 111 w g r) (hm0 : -9223372036854775808 ≤ most) (hm1 : most < 9223372036854775808) :
    Calls Try.prog 34 #[.pointer (some ⟨g, 0, none⟩), .int .i64 most] w (RdText 111 g (r.text most).1 (r.text most).2 w) := by
  have hr0 := Lib.hid hr
  obtain ⟨l, e⟩ := r
  obtain ⟨A, n, c, hB, rfl, ⟨hc, hn⟩, hc2, hrow⟩ := hr
  have c0 := hB.cell 0
  have c1 := hB.cell 1
  simp only [List.getElem?_toArray, List.getElem?_cons_zero, List.getElem?_cons_succ] at c0 c1
  dsimp only at hn hrow hc c1 c0
  have f0 := hB.frozen 0
  have f1 := hB.frozen 1
  go_enter Try.func34, Try.ntmps34
  go_wp2_with fail
  refine (err_any g _ w hr0.out).mono ?_
  rintro e1 w1 ⟨rfl, rfl⟩
  by_cases he : e = 0
  · subst he
    go_wp2_with fail
    refine (rcount_any g _ w hr0.out).mono ?_
    rintro e1 w1 ⟨n, k, ok, rfl, hcnt, rfl⟩
    cases ok with
    | false =>
      go_wp2
      go_ret
      rw [CodeM.text_none hcnt.out]
      exact rd_nil (hr0.out.fail 4) (grownBy_setCell w g 1 _)
    | true =>
      obtain ⟨hn64, hk0, hk, _, _⟩ := CodeM.cnt_some hcnt.out
      dsimp only at hk
      have hmx : IntKind.u64.wrap (max 0 most) = max 0 most := by rw [IntKind.wrap_u64]; omega
      have hmx2 : 0 ≤ max 0 most := by omega
      have hsb : IntKind.u64.wrap ((l.length : Int) - (k : Int)) = (l.length : Int) - (k : Int) := by rw [IntKind.wrap_u64]; omega
      by_cases h1 : max 0 most < (n : Int)
      · have HC := Lib.hid (CodeM.text_long (most := most) hcnt.out h1)
        go_wp2
        all_goals go_ret
        all_goals rw [HC.out]
        all_goals exact rd_nil (hr0.out.fail 3) (grownBy_setCell w g 1 _)
      · by_cases h2 : l.length - k < n
        · have HC := Lib.hid (CodeM.text_short (most := most) hcnt.out h1 h2)
          go_wp2
          all_goals go_ret
          all_goals rw [HC.out]
          all_goals exact rd_nil (hr0.out.fail 4) (grownBy_setCell w g 1 _)
        · have HC := Lib.hid (CodeM.text_ok (most := most) hcnt.out h1 h2)
          have hlt := hB.lt
          have hkn : k + n ≤ l.length := by omega
          have hln : ((l.drop k).take n).length = n := by rw [List.length_take, List.length_drop]; omega
          have HL := Lib.hid hln
          have HS := Lib.hid (row_cut (n := n) (k := k) hrow hc)
          have HB := Lib.hid (fun (w1 : World) (b1 : Below w.heap.size w w1) => rd_moved (e := 0) (hB.below b1 hlt) hc hn hc2 (hrow.below b1) (k + n) hkn)
          have HD := Lib.hid (fun (w1 : World) (b1 : Below w.heap.size w w1) => (hB.below b1 hlt).frozen 0)
          have HN := Lib.hid hcnt
          clear hB hln hcnt
          rcases Int.lt_or_le 0 most with hmp | hmp
          · rw [show max 0 most = most by omega] at *
            go_wp2_with fail
            · refine (clone_len A 0 n _ w (HS.out.1 (by assumption)) HL.out (by omega)).mono ?_
              rintro e w1 ⟨A1, n1, c1, rfl, hn1, h1, b1⟩
              have d0 := cell_below b1 c0
              have fz := HD.out w1 b1
              go_wp2
              all_goals go_ret
              all_goals rw [HC.out]
              all_goals first
                | exact rd_text h1 hn1 b1 hlt rfl ((HB.out w1 b1).1 (by omega))
                | exact rd_text h1 hn1 b1 hlt rfl (HB.out w1 b1).2
            · refine (clone_len (A.map fun x => x.add k) (c - k) n _ w HS.out.2 HL.out (by omega)).mono ?_
              rintro e w1 ⟨A1, n1, c1, rfl, hn1, h1, b1⟩
              have d0 := cell_below b1 c0
              have fz := HD.out w1 b1
              go_wp2
              all_goals go_ret
              all_goals rw [HC.out]
              all_goals first
                | exact rd_text h1 hn1 b1 hlt rfl ((HB.out w1 b1).1 (by omega))
                | exact rd_text h1 hn1 b1 hlt rfl (HB.out w1 b1).2
          · rw [show max 0 most = 0 by omega] at *
            obtain rfl : n = 0 := by omega
            simp only [Nat.add_zero] at HB HC
            go_wp2_with fail
            · refine (clone_len A 0 0 _ w (HS.out.1 (by assumption)) HL.out (by omega)).mono ?_
              rintro e w1 ⟨A1, n1, c1, rfl, hn1, h1, b1⟩
              have d0 := cell_below b1 c0
              have fz := HD.out w1 b1
              go_wp2
              all_goals go_ret
              all_goals rw [HC.out]
              all_goals first
                | exact rd_text h1 hn1 b1 hlt rfl ((HB.out w1 b1).1 (by omega))
                | exact rd_text h1 hn1 b1 hlt rfl (HB.out w1 b1).2
            · refine (clone_len (A.map fun x => x.add k) (c - k) 0 _ w HS.out.2 HL.out (by omega)).mono ?_
              rintro e w1 ⟨A1, n1, c1, rfl, hn1, h1, b1⟩
              have d0 := cell_below b1 c0
              have fz := HD.out w1 b1
              go_wp2
              all_goals go_ret
              all_goals rw [HC.out]
              all_goals first
                | exact rd_text h1 hn1 b1 hlt rfl ((HB.out w1 b1).1 (by omega))
                | exact rd_text h1 hn1 b1 hlt rfl (HB.out w1 b1).2
  · go_wp2
    go_ret
    rw [CodeM.text_err he]
    exact rd_nil hr0.out (World.grownBy.refl _ _)
end Go.Proofs.Ytaadfalklddhcaa
