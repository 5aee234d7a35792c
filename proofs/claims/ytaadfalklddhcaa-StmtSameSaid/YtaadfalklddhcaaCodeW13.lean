/-
  What the document's text is; the law's helpers lent and kept.
  Conditions: the reader lies in a block of its own; its bytes lie in memory as a list.
-/
import Derived.Test.YtaadfalklddhcaaCodeW12
namespace Go.Proofs.Ytaadfalklddhcaa
open Go.RowKit Go.Sort Go.Lib
set_option linter.unusedVariables false
set_option maxRecDepth 100000 in
set_option maxHeartbeats 2000000 in
theorem reftext_any (g : Nat) (r : CodeM.Rd) (most : Int) (w : World) (hr : RdAt 73 w g r) (hm0 : -9223372036854775808 ≤ most) (hm1 : most < 9223372036854775808) :
    Calls Try.prog 42 #[.pointer (some ⟨g, 0, none⟩), .int .i64 most] w (RdText 73 g (r.text most).1 (r.text most).2 w) := by
  have hr0 := Lib.hid hr
  obtain ⟨l, e⟩ := r
  obtain ⟨A, n, c, hB, rfl, ⟨hc, hn⟩, hc2, hrow⟩ := hr
  have c0 := hB.cell 0
  have c1 := hB.cell 1
  simp only [List.getElem?_toArray, List.getElem?_cons_zero, List.getElem?_cons_succ] at c0 c1
  dsimp only at hn hrow hc c1 c0 hB
  have f0 := hB.frozen 0
  have f1 := hB.frozen 1
  by_cases he : e = 0
  · subst he
    go_enter Try.func42, Try.ntmps42
    go_wp2_with fail
    refine (refcount_any A c l w hrow hn).mono ?_
    rintro e1 w1 ⟨n, k, rfl, hcnt, rfl⟩
    by_cases hk0 : k = 0
    · subst hk0
      go_wp2
      go_ret
      rw [CodeM.text_none hcnt.out]
      exact rd_nil (hr0.out.fail 4) (grownBy_setCell w g 1 _)
    · have hcn := hcnt.out
      rw [if_neg hk0] at hcn
      obtain ⟨hn64, _, hk, _, _⟩ := CodeM.cnt_some hcn
      clear hcnt
      have hmx : IntKind.u64.wrap (max 0 most) = max 0 most := by rw [IntKind.wrap_u64]; omega
      have hmx2 : 0 ≤ max 0 most := by omega
      have hsb : IntKind.u64.wrap ((l.length : Int) - (k : Int)) = (l.length : Int) - (k : Int) := by rw [IntKind.wrap_u64]; omega
      by_cases h1 : max 0 most < (n : Int)
      · have HC := Lib.hid (CodeM.text_long (most := most) hcn h1)
        clear hcn
        go_wp2
        all_goals go_ret
        all_goals rw [HC.out]
        all_goals exact rd_nil (hr0.out.fail 3) (grownBy_setCell w g 1 _)
      · by_cases h2 : l.length - k < n
        · have HC := Lib.hid (CodeM.text_short (most := most) hcn h1 h2)
          clear hcn
          go_wp2
          all_goals go_ret
          all_goals rw [HC.out]
          all_goals exact rd_nil (hr0.out.fail 4) (grownBy_setCell w g 1 _)
        · have HC := Lib.hid (CodeM.text_ok (most := most) hcn h1 h2)
          clear hcn
          have hlt := hB.lt
          have hkn : k + n ≤ l.length := by omega
          have hln : ((l.drop k).take n).length = n := by rw [List.length_take, List.length_drop]; omega
          have HL := Lib.hid hln
          have HS := Lib.hid (row_cut (n := n) (k := k) hrow hc)
          have HB := Lib.hid (fun (w1 : World) (b1 : Below w.heap.size w w1) => rd_moved (e := 0) (hB.below b1 hlt) hc hn hc2 (hrow.below b1) (k + n) hkn)
          have HD := Lib.hid (fun (w1 : World) (b1 : Below w.heap.size w w1) => (hB.below b1 hlt).frozen 0)
          have ca := (hB.alloc (.cells #[] 5)).cell 0
          simp only [List.getElem?_toArray, List.getElem?_cons_zero] at ca
          clear hB hln
          by_cases hck : c = k
          · obtain rfl : n = 0 := by omega
            subst hck
            have hlc : l.length = c := by omega
            have HX : Hid (∀ (w1 : World), Below w.heap.size w w1 → RdAt 73 (w1.setCell ⟨g, 0, none⟩ (.slice A 0 0)) g ⟨l.drop c, 0⟩) := Lib.hid (fun w1 b1 => by
              have := (HB.out w1 b1).1 rfl
              rw [Nat.add_zero, hlc, Nat.sub_self] at this
              exact this)
            have HC' := HC.out
            rw [List.take_zero, Nat.add_zero] at HC'
            have HC := Lib.hid HC'
            clear HC' HB HS hlc
            rcases Int.lt_or_le 0 most with hmp | hmp
            · rw [show max 0 most = most by omega] at *
              go_wp2_with (at_builtin; refine wpl_app' _ rfl (.tmp 47) (.tmp 57) rfl w.heap.size (some ⟨w.heap.size, 0, none⟩) 0 [] 0 rfl rfl (Own.made w #[] 0 (Nat.le_refl _) (by unfold maxLen; omega) rfl) A 0 [] 0 rfl rfl (.inl rfl) (by omega) (by simp) ?_; intro A1 c1 w1 h1 hg1 _; have b1 : Below w.heap.size w w1 := ((Below.refl w.heap.size w).alloc (Nat.le_refl _) (.cells #[] 5)).grown hg1 (by simp) (by intro k hk; simp [Value.ownBlock] at hk; omega); rw [List.nil_append] at h1; have d0 := cell_below b1 c0; have fz := HD.out w1 b1; clear hg1)
              all_goals go_ret
              all_goals rw [HC.out]
              all_goals exact rd_text h1 (Lib.hid rfl) b1 hlt rfl (HX.out w1 b1)
            · rw [show max 0 most = 0 by omega] at *
              go_wp2_with (at_builtin; refine wpl_app' _ rfl (.tmp 47) (.tmp 57) rfl w.heap.size (some ⟨w.heap.size, 0, none⟩) 0 [] 0 rfl rfl (Own.made w #[] 0 (Nat.le_refl _) (by unfold maxLen; omega) rfl) A 0 [] 0 rfl rfl (.inl rfl) (by omega) (by simp) ?_; intro A1 c1 w1 h1 hg1 _; have b1 : Below w.heap.size w w1 := ((Below.refl w.heap.size w).alloc (Nat.le_refl _) (.cells #[] 5)).grown hg1 (by simp) (by intro k hk; simp [Value.ownBlock] at hk; omega); rw [List.nil_append] at h1; have d0 := cell_below b1 c0; have fz := HD.out w1 b1; clear hg1)
              all_goals go_ret
              all_goals rw [HC.out]
              all_goals exact rd_text h1 (Lib.hid rfl) b1 hlt rfl (HX.out w1 b1)
          · skip
            rcases Int.lt_or_le 0 most with hmp | hmp
            · rw [show max 0 most = most by omega] at *
              go_wp2_with ((at_builtin; refine wpl_app' _ rfl (.tmp 47) (.tmp 57) rfl w.heap.size (some ⟨w.heap.size, 0, none⟩) 0 [] 0 rfl rfl (Own.made w #[] 0 (Nat.le_refl _) (by unfold maxLen; omega) rfl) (A.map fun x => x.add k) (c - k) ((l.drop k).take n) n (by first | rfl | simp [Act.eval]) HL.out (Row.alloc HS.out.2 _) (by omega) (by simp) ?_; intro A1 c1 w1 h1 hg1 _; have b1 : Below w.heap.size w w1 := ((Below.refl w.heap.size w).alloc (Nat.le_refl _) (.cells #[] 5)).grown hg1 (by simp) (by intro k hk; simp [Value.ownBlock] at hk; omega); rw [List.nil_append] at h1; have d0 := cell_below b1 c0; have fz := HD.out w1 b1; clear hg1))
              all_goals go_ret
              all_goals rw [HC.out]
              all_goals first
                | exact rd_text h1 HL b1 hlt rfl ((HB.out w1 b1).1 (by first | assumption | omega))
                | exact rd_text h1 HL b1 hlt rfl (HB.out w1 b1).2
            · rw [show max 0 most = 0 by omega] at *
              go_wp2_with ((at_builtin; refine wpl_app' _ rfl (.tmp 47) (.tmp 57) rfl w.heap.size (some ⟨w.heap.size, 0, none⟩) 0 [] 0 rfl rfl (Own.made w #[] 0 (Nat.le_refl _) (by unfold maxLen; omega) rfl) (A.map fun x => x.add k) (c - k) ((l.drop k).take n) n (by first | rfl | simp [Act.eval]) HL.out (Row.alloc HS.out.2 _) (by omega) (by simp) ?_; intro A1 c1 w1 h1 hg1 _; have b1 : Below w.heap.size w w1 := ((Below.refl w.heap.size w).alloc (Nat.le_refl _) (.cells #[] 5)).grown hg1 (by simp) (by intro k hk; simp [Value.ownBlock] at hk; omega); rw [List.nil_append] at h1; have d0 := cell_below b1 c0; have fz := HD.out w1 b1; clear hg1))
              all_goals go_ret
              all_goals rw [HC.out]
              all_goals first
                | exact rd_text h1 HL b1 hlt rfl ((HB.out w1 b1).1 (by first | assumption | omega))
                | exact rd_text h1 HL b1 hlt rfl (HB.out w1 b1).2
  · go_enter Try.func42, Try.ntmps42
    go_wp2
    go_ret
    rw [CodeM.text_err he]
    exact rd_nil hr0.out (World.grownBy.refl _ _)
end Go.Proofs.Ytaadfalklddhcaa
