/-
  The document's next frame: what it returns, and where that lies.
  Conditions: the bytes lie in memory as a list; their number is bounded.
-/
import Derived.Test.YtgcognefggbpjaaFrmW4
namespace Go.Proofs.Ytgcognefggbpjaa
open Go.RowKit Go.Sort Go.Lib
set_option linter.unusedVariables false
namespace FrmM
theorem le_cons {l : List UInt8} {k j : Nat} {u : UInt8} (hu : l[j]? = some u) (hj : j < k) : CodeM.le ((l.take k).drop j) = CodeM.le ((l.take k).drop (j + 1)) * 256 + u.toNat := by
  have h : (l.take k)[j]? = some u := by rw [List.getElem?_take_of_lt hj]; exact hu
  obtain ⟨h1, h2⟩ := List.getElem?_eq_some_iff.1 h
  rw [← List.getElem_cons_drop h1, h2]
  show u.toNat + 256 * _ = _
  omega
theorem le_small {l : List UInt8} {k j : Nat} (hk : k ≤ 8) (hj : 0 < j) : CodeM.le ((l.take k).drop j) ≤ 72057594037927935 := by
  have := CodeM.le_lt ((l.take k).drop j)
  have h1 : ((l.take k).drop j).length ≤ 7 := by rw [List.length_drop, List.length_take]; omega
  have h2 : 256 ^ ((l.take k).drop j).length ≤ 256 ^ 7 := Nat.pow_le_pow_right (by omega) h1
  have h3 : (256 : Nat) ^ 7 = 72057594037927936 := by decide
  omega
theorem le4_lt (l : List UInt8) : CodeM.le (l.take 4) < 4294967296 := by
  have := CodeM.le_lt (l.take 4)
  have h1 : (l.take 4).length ≤ 4 := by rw [List.length_take]; omega
  have h2 : 256 ^ (l.take 4).length ≤ 256 ^ 4 := Nat.pow_le_pow_right (by omega) h1
  have h3 : (256 : Nat) ^ 4 = 4294967296 := by decide
  omega
end FrmM
theorem bs_drop (l : List UInt8) (k : Nat) : bs (l.drop k) = (bs l).drop k := List.map_drop ..
/-- The reader's four bytes: too few. -/
theorem num4_no (g : Nat) (A : Option Addr) (n c : Nat) (w : World) (hB : Blk w g 99 #[.slice A n c, .int .i64 0]) (hn : n < 4) :
    Calls Try.prog 58 #[.pointer (some ⟨g, 0, none⟩), .int .i64 4] w fun e w' => e = .returned (.int .u64 0) ∧ w' = w.setCell ⟨g, 1, none⟩ (.int .i64 4) := by
  have c0 := hB.cell 0
  have c1 := hB.cell 1
  have f1 := hB.frozen 1
  simp only [List.getElem?_toArray, List.getElem?_cons_zero, List.getElem?_cons_succ] at c0 c1
  go_enter Try.func58, Try.ntmps58
  go_wp2
  go_ret
  exact ⟨rfl, rfl⟩
/-- What the reading of four bytes leaves. -/
def Num4 (g gb o n c N : Nat) (w : World) (e : Ending) (w' : World) : Prop := e = .returned (.int .u64 (N : Int)) ∧ ∃ o', Hid (o' = o + 4 ∨ (c = 4 ∧ o' = o)) ∧ w' = w.setCell ⟨g, 0, none⟩ (.slice (some ⟨gb, o', none⟩) (n - 4) (c - 4))
set_option maxRecDepth 100000 in
theorem num4_ok (g gb o n c : Nat) (b : List UInt8) (w : World) (hB : Blk w g 99 #[.slice (some ⟨gb, o, none⟩) n c, .int .i64 0]) (hl : b.length = n) (hn : 4 ≤ n) (hnc : n ≤ c) (hc : n ≤ 140737488355328) (hr : Row w (some ⟨gb, o, none⟩) (bs b)) :
    Calls Try.prog 58 #[.pointer (some ⟨g, 0, none⟩), .int .i64 4] w (Num4 g gb o n c (CodeM.le (b.take 4)) w) := by
  have c0 := hB.cell 0
  have c1 := hB.cell 1
  have f0 := hB.frozen 0
  simp only [List.getElem?_toArray, List.getElem?_cons_zero, List.getElem?_cons_succ] at c0 c1
  go_enter Try.func58, Try.ntmps58
  go_wp2
  go_loop [5, 6] (fun v i => ∃ k : Nat, k ≤ 4 ∧ i = .int .i64 ((k : Int) - 1) ∧ v = .int .u64 (CodeM.le ((b.take 4).drop k) : Int)) (fun _ i => (RowKit.intOf i + 1).toNat)
  case atStart => exact ⟨4, by omega, rfl, by rw [List.drop_eq_nil_of_le (by rw [List.length_take]; omega)]; rfl⟩
  case round =>
    obtain ⟨k, hk, rfl, rfl⟩ := hrel
    cases k with
    | zero =>
      rw [List.drop_zero]
      go_wp2
      all_goals
        go_ret
        first
          | exact ⟨rfl, o, Lib.hid (.inr ⟨by first | rfl | assumption | omega, rfl⟩), rfl⟩
          | exact ⟨rfl, o + 4, Lib.hid (.inl rfl), rfl⟩
    | succ k =>
      rw [show (((k + 1 : Nat) : Int) - 1) = (k : Int) by omega]
      obtain ⟨u, hu⟩ : ∃ s, b[k]? = some s := ⟨_, List.getElem?_eq_getElem (by omega)⟩
      obtain ⟨b', o', e, hcell⟩ := row_at hr hu
      cases e
      have HL := Lib.hid (FrmM.le_cons (k := 4) hu (by omega))
      have hsm := FrmM.le_small (l := b) (k := 4) (j := k + 1) (by omega) (by omega)
      have hu8 := u.toNat_lt
      obtain ⟨N, hN⟩ : ∃ N, CodeM.le ((b.take 4).drop (k + 1)) = N := ⟨_, rfl⟩
      rw [hN] at HL hsm ⊢
      have hw8 : IntKind.u64.wrap (u.toNat : Int) = (u.toNat : Int) := by rw [IntKind.wrap_u64]; omega
      clear hN
      go_wp2
      go_round
      case rel => exact ⟨k, by omega, by go_num, congrArg (Value.int .u64) (by rw [HL.out]; push_cast; rfl)⟩
      case measure => simp [RowKit.intOf]
set_option maxRecDepth 100000 in
theorem refnext_no (A : Option Addr) (n c : Nat) (b : List UInt8) (w : World) (hl : b.length = n) (hnc : n ≤ c) (hc : n ≤ 140737488355328) (hr : Row w A (bs b)) (hz : (FrmM.sz b).2 ≠ 0) :
    Calls Try.prog 41 #[.slice A n c] w fun e w' => e = .returned (.tuple #[.slice none 0 0, .slice A n c, .int .i64 ((FrmM.sz b).2 : Nat)]) ∧ Below w.heap.size w w' := by
  have hB := Blk.new w 99 #[.slice A n c, .int .i64 0]
  have b0 := (Below.refl w.heap.size w).alloc (Nat.le_refl _) (.cells #[.slice A n c, .int .i64 0] 99)
  have hr0 := hr.alloc (.cells #[.slice A n c, .int .i64 0] 99)
  by_cases h4 : n < 4
  · have e : FrmM.sz b = (0, 7) := by unfold FrmM.sz; rw [if_pos (by omega)]
    rw [e]
    go_enter Try.func41, Try.ntmps41
    go_wp2_with fail
    refine (num4_no w.heap.size A n c _ hB h4).mono ?_
    rintro e w1 ⟨rfl, rfl⟩
    have hB1 := hB.set_ 1 (.int .i64 4)
    have d1 := hB1.cell 1
    simp only [List.setIfInBounds_toArray, List.set_cons_succ, List.set_cons_zero, List.getElem?_toArray, List.getElem?_cons_zero, List.getElem?_cons_succ] at d1
    clear hB hB1 hr0
    have b1 := Lib.hid (b0.grown (grownBy_setCell _ w.heap.size 1 (.int .i64 4)) (by simp) (fun k hk => by injection hk with hk; omega))
    generalize (w.alloc (.cells #[.slice A n c, .int .i64 0] 99)).setCell ⟨w.heap.size, 1, none⟩ (.int .i64 4) = w1 at *
    go_wp2
    go_ret3
    exact ⟨rfl, b1.out⟩
  · obtain ⟨gb, o, rfl, _⟩ := hr.byte (k := 0) (by omega)
    have hsz : FrmM.sz b = if 20000 < CodeM.le (b.take 4) then (0, 3) else if n - 4 < CodeM.le (b.take 4) then (0, 7) else (CodeM.le (b.take 4), 0) := by unfold FrmM.sz; rw [if_neg (by omega), hl]
    have hlt := FrmM.le4_lt b
    have hnum := num4_ok w.heap.size gb o n c b _ hB hl (by omega) hnc hc hr0
    obtain ⟨N, hN⟩ : ∃ N, CodeM.le (b.take 4) = N := ⟨_, rfl⟩
    rw [hN] at hsz hlt hnum
    have HNUM := Lib.hid hnum
    clear hN hr hr0 hnum
    have hwn : IntKind.u64.wrap (((n - 4 : Nat) : Int)) = ((n - 4 : Nat) : Int) := by rw [IntKind.wrap_u64]; omega
    have hwn2 : IntKind.u64.wrap ((n : Int) - 4) = (n : Int) - 4 := by rw [IntKind.wrap_u64]; omega
    have HB := Lib.hid hB
    clear hB
    by_cases h1 : 20000 < N
    · rw [if_pos h1] at hsz
      rw [hsz]
      clear hsz
      go_enter Try.func41, Try.ntmps41
      go_wp2_with fail
      refine HNUM.out.mono ?_
      rintro e w1 ⟨rfl, o', ho', rfl⟩
      have hB1 := HB.out.set_ 0 (.slice (some ⟨gb, o', none⟩) (n - 4) (c - 4))
      have d0 := hB1.cell 0
      have d1 := hB1.cell 1
      simp only [List.setIfInBounds_toArray, List.set_cons_zero, List.getElem?_toArray, List.getElem?_cons_zero, List.getElem?_cons_succ] at d0 d1
      have b1 := Lib.hid (b0.grown (grownBy_setCell _ w.heap.size 0 (.slice (some ⟨gb, o', none⟩) (n - 4) (c - 4))) (by simp) (fun k hk => by injection hk with hk; omega))
      clear hB1 HNUM HB
      generalize (w.alloc (.cells #[.slice (some ⟨gb, o, none⟩) n c, .int .i64 0] 99)).setCell ⟨w.heap.size, 0, none⟩ (.slice (some ⟨gb, o', none⟩) (n - 4) (c - 4)) = w1 at *
      go_wp2
      go_ret3
      exact ⟨rfl, b1.out⟩
    · rw [if_neg h1] at hsz
      by_cases h2 : n - 4 < N
      · rw [if_pos h2] at hsz
        rw [hsz]
        clear hsz
        go_enter Try.func41, Try.ntmps41
        go_wp2_with fail
        refine HNUM.out.mono ?_
        rintro e w1 ⟨rfl, o', ho', rfl⟩
        have hB1 := HB.out.set_ 0 (.slice (some ⟨gb, o', none⟩) (n - 4) (c - 4))
        have d0 := hB1.cell 0
        have d1 := hB1.cell 1
        simp only [List.setIfInBounds_toArray, List.set_cons_zero, List.getElem?_toArray, List.getElem?_cons_zero, List.getElem?_cons_succ] at d0 d1
        have b1 := Lib.hid (b0.grown (grownBy_setCell _ w.heap.size 0 (.slice (some ⟨gb, o', none⟩) (n - 4) (c - 4))) (by simp) (fun k hk => by injection hk with hk; omega))
        clear hB1 HNUM HB
        generalize (w.alloc (.cells #[.slice (some ⟨gb, o, none⟩) n c, .int .i64 0] 99)).setCell ⟨w.heap.size, 0, none⟩ (.slice (some ⟨gb, o', none⟩) (n - 4) (c - 4)) = w1 at *
        go_wp2
        go_ret3
        exact ⟨rfl, b1.out⟩
      · rw [if_neg h2] at hsz
        exact absurd (by rw [hsz]) hz
set_option maxRecDepth 100000 in
theorem refnext_ok (A : Option Addr) (n c : Nat) (b : List UInt8) (w : World) (hl : b.length = n) (hnc : n ≤ c) (hc : n ≤ 140737488355328) (hr : Row w A (bs b)) (hz : (FrmM.sz b).2 = 0) :
    Calls Try.prog 41 #[.slice A n c] w fun e w' => ∃ A1 c1 A2 c2, e = .returned (.tuple #[.slice A1 (FrmM.sz b).1 c1, .slice A2 (n - (4 + (FrmM.sz b).1)) c2, .int .i64 0]) ∧ Hid (n - (4 + (FrmM.sz b).1) ≤ c2) ∧
      (∀ W, Row W A (bs b) → Row W A1 (bs ((b.drop 4).take (FrmM.sz b).1)) ∧ Row W A2 (bs (b.drop (4 + (FrmM.sz b).1)))) ∧ Below w.heap.size w w' := by
  obtain ⟨hz1, hz2⟩ : (FrmM.sz b).1 ≤ 20000 ∧ 4 + (FrmM.sz b).1 ≤ b.length := by
    rcases FrmM.sz_cases b with h | h | h
    · omega
    · omega
    · exact h.2
  have hB := Blk.new w 99 #[.slice A n c, .int .i64 0]
  have b0 := (Below.refl w.heap.size w).alloc (Nat.le_refl _) (.cells #[.slice A n c, .int .i64 0] 99)
  have hr0 := hr.alloc (.cells #[.slice A n c, .int .i64 0] 99)
  obtain ⟨gb, o, rfl, _⟩ := hr.byte (k := 0) (by omega)
  have hN : CodeM.le (b.take 4) = (FrmM.sz b).1 := by
    unfold FrmM.sz at hz ⊢
    split
    · rename_i h; rw [if_pos h] at hz; cases hz
    · rename_i h
      rw [if_neg h] at hz
      split
      · rename_i h; rw [if_pos h] at hz; cases hz
      · rename_i h
        rw [if_neg h] at hz
        split
        · rename_i h; rw [if_pos h] at hz; cases hz
        · rfl
  obtain ⟨N, hNe⟩ : ∃ N, (FrmM.sz b).1 = N := ⟨_, rfl⟩
  rw [hNe] at hN hz1 hz2 ⊢
  have HR : Hid (∀ o' o2, (o' = o + 4 ∨ (c = 4 ∧ o' = o)) → (o2 = o' + N ∨ (c - 4 = N ∧ o2 = o')) → ∀ W, Row W (some ⟨gb, o, none⟩) (bs b) → Row W (some ⟨gb, o', none⟩) (bs ((b.drop 4).take N)) ∧ Row W (some ⟨gb, o2, none⟩) (bs (b.drop (4 + N)))) := Lib.hid (by
    intro o' o2 h1 h2 W hW
    have hc4 : (bs b).length ≤ c := by rw [bs_length]; omega
    have r1 : Row W (some ⟨gb, o', none⟩) (bs (b.drop 4)) := by
      rcases h1 with rfl | ⟨h1, rfl⟩
      · have := hW.cutAt (k := 4) (cap := c) (A' := some ⟨gb, o + 4, none⟩) hc4 (by intro _; simp [Addr.add_lit])
        rw [← bs_drop] at this; exact this
      · have := hW.cutAt (k := 4) (cap := c) (A' := some ⟨gb, o', none⟩) hc4 (by intro q; exact absurd h1 q)
        rw [← bs_drop] at this; exact this
    have hc5 : (bs (b.drop 4)).length ≤ c - 4 := by rw [bs_length, List.length_drop]; omega
    refine ⟨by rw [bs_take]; exact r1.take N, ?_⟩
    have r2 : Row W (some ⟨gb, o2, none⟩) (bs ((b.drop 4).drop N)) := by
      rcases h2 with rfl | ⟨h2, rfl⟩
      · have := r1.cutAt (k := N) (cap := c - 4) (A' := some ⟨gb, o' + N, none⟩) hc5 (by intro _; simp [Addr.add_lit])
        rw [← bs_drop] at this; exact this
      · have := r1.cutAt (k := N) (cap := c - 4) (A' := some ⟨gb, o2, none⟩) hc5 (by intro q; exact absurd h2 q)
        rw [← bs_drop] at this; exact this
    rw [List.drop_drop] at r2; exact r2)
  have hnum := num4_ok w.heap.size gb o n c b _ hB hl (by omega) hnc hc hr0
  rw [hN] at hnum
  have HNUM := Lib.hid hnum
  clear hnum
  go_enter Try.func41, Try.ntmps41
  go_wp2_with fail
  refine HNUM.out.mono ?_
  rintro e w1 ⟨rfl, o', ho', rfl⟩
  have hB1 := hB.set_ 0 (.slice (some ⟨gb, o', none⟩) (n - 4) (c - 4))
  have d0 := hB1.cell 0
  have d1 := hB1.cell 1
  simp only [List.setIfInBounds_toArray, List.set_cons_zero, List.getElem?_toArray, List.getElem?_cons_zero, List.getElem?_cons_succ] at d0 d1
  have b1 := Lib.hid (b0.grown (grownBy_setCell _ w.heap.size 0 (.slice (some ⟨gb, o', none⟩) (n - 4) (c - 4))) (by simp) (fun k hk => by injection hk with hk; omega))
  generalize (w.alloc (.cells #[.slice (some ⟨gb, o, none⟩) n c, .int .i64 0] 99)).setCell ⟨w.heap.size, 0, none⟩ (.slice (some ⟨gb, o', none⟩) (n - 4) (c - 4)) = w1 at *
  have HO := ho'
  clear HNUM
  rw [hl] at hz2
  clear hN hB hB1 hr hr0 hz hNe
  have hwn : IntKind.u64.wrap (((n - 4 : Nat) : Int)) = ((n - 4 : Nat) : Int) := by rw [IntKind.wrap_u64]; omega
  have hwn2 : IntKind.u64.wrap ((n : Int) - 4) = (n : Int) - 4 := by rw [IntKind.wrap_u64]; omega
  have hwi : IntKind.i64.wrap (N : Int) = (N : Int) := by rw [IntKind.wrap_i64]; omega
  have bd : ∀ q, Below w.heap.size w (w1.drewN q) := fun q => ⟨b1.out.os, b1.out.tape, b1.out.output, b1.out.size, b1.out.block⟩
  go_wp2
  by_cases hcN : c - 4 = N
  · go_quiet (fail)
    go_wp2
    go_ret3
    exact ⟨some ⟨gb, o', none⟩, N, some ⟨gb, o', none⟩, 0, by rw [show n - (4 + N) = n - 4 - N by omega]; rfl, Lib.hid (by omega), HR.out o' o' HO.out (.inr ⟨hcN, rfl⟩), bd _⟩
  · go_quiet (fail)
    go_wp2
    go_ret3
    exact ⟨some ⟨gb, o', none⟩, c - 4, some ⟨gb, o' + N, none⟩, c - 4 - N, by rw [show n - (4 + N) = n - 4 - N by omega]; rfl, Lib.hid (by omega), HR.out o' (o' + N) HO.out (.inl rfl), bd _⟩
end Go.Proofs.Ytgcognefggbpjaa
