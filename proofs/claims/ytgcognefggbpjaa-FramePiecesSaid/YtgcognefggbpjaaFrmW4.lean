/-
  What the law's known answer is.
  Conditions: none.
-/
import Derived.Test.YtgcognefggbpjaaFrmW3
namespace Go.Proofs.Ytgcognefggbpjaa
open Go.RowKit Go.Sort Go.Lib
set_option linter.unusedVariables false
theorem StrAt.below {w w' : World} {g : Nat} {A : Option Addr} {l : List UInt8} {e : Nat} (h : StrAt w g A l e) (hb : Below w.heap.size w w') : StrAt w' g A l e := by
  obtain ⟨n, c, hB, hF⟩ := h
  refine ⟨n, c, hB.below hb hB.lt, ?_⟩
  rcases hF.lt with h0 | ⟨gb, o, e', _, hlt⟩
  · obtain ⟨f1, f2, f3, f4, f5⟩ := hF
    exact ⟨f1, f2, f3, f4, .inl h0⟩
  · exact hF.same hb.size (fun a ha => hb.block _ (by have e2 := e'.symm.trans ha; injection e2 with e2; rw [← e2]; exact hlt))
theorem framebytes_len (A : Option Addr) (n c : Nat) (p : List UInt8) (w : World) (hn : p.length = n) (hr : Row w A (bs p)) (h : n ≤ 20000) :
    Calls Try.prog 32 #[.slice A n c] w fun e w' => ∃ A' n c', e = .returned (.tuple #[.slice A' n c', .int .i64 0]) ∧ Hid ((FrmM.form p).length = n) ∧ Own w' w.heap.size A' c' (FrmM.form p) ∧ Below w.heap.size w w' := by
  subst hn; exact framebytes_ok A c p w hr h
set_option maxRecDepth 100000 in
set_option maxHeartbeats 2000000 in
theorem known21_any (w : World) : Calls Try.prog 31 #[] w fun e w' => e = .returned (.bool true) ∧ Below w.heap.size w w' := by
  have hform : FrmM.form [97, 98] = [2, 0, 0, 0, 97, 98] := by decide +kernel
  have hz3 : (FrmM.sz [2, 0, 0]).2 = 7 := by decide +kernel
  have hz6 : FrmM.sz [2, 0, 0, 0, 97, 98] = (2, 0) := by decide +kernel
  go_enter Try.func31, Try.ntmps31
  go_wp2_with fail
  refine (new_any w).mono ?_
  rintro e w1 ⟨rfl, hs1, b1, hsz1⟩
  have hlt1 : w.heap.size < w1.heap.size := by omega
  clear hsz1
  have kc : (convert 22 22 (.slice (some ⟨w1.heap.size, 0, none⟩) 2 2)).run Try.prog (w1.alloc (.cells #[.int .u8 97, .int .u8 98] 5)) = .ok (.slice (some ⟨w1.heap.size, 0, none⟩) 2 2) (w1.alloc (.cells #[.int .u8 97, .int .u8 98] 5 (2, 3))) :=
    Lib.run_convert_bytes_const (P := Try.prog) w1 22 5 #[.int .u8 97, .int .u8 98] 2 2 Try.underlying22 Try.underlying5
  have ba : Below w1.heap.size w1 (w1.alloc (.cells #[.int .u8 97, .int .u8 98] 5 (2, 3))) := (Below.refl _ _).alloc (Nat.le_refl _) _
  have hrow := row_lit w1 [97, 98] #[.int .u8 97, .int .u8 98] 5 (2, 3) rfl
  go_wp2_with fail
  refine (framebytes_len (some ⟨w1.heap.size, 0, none⟩) 2 2 [97, 98] _ rfl hrow (by omega)).mono ?_
  rw [hform]
  rintro e w2 ⟨A2, n2, c2, rfl, hn2, o2, hb2⟩
  obtain rfl : n2 = 6 := hn2.out.symm
  obtain ⟨gb, rfl, hgb, _⟩ := o2.some_ (by simp)
  have hc6 := o2.le.1
  have hc6' : (6 : Int) ≤ (c2 : Int) := by simp at hc6; omega
  have b2 := below_step ba hb2 (Nat.le_refl _)
  have hs2 := hs1.below b2
  have r2 := o2.row
  have b02 := Lib.hid (below_step b1 b2 (Nat.le_refl _))
  have hsz2 := b2.size
  simp at hgb
  clear kc ba hrow o2 hb2 b2 hs1 b1 hc6
  go_wp2_with fail
  refine (feed_ok w.heap.size none (some ⟨gb, 0, none⟩) 3 c2 [] [2, 0, 0] w2 hs2 rfl (r2.take 3) (by simp)).mono ?_
  rintro e w3 ⟨A3, rfl, hs3, hg3, ha3⟩
  rw [List.nil_append] at hs3
  have r3 : Row w3 (some ⟨gb, 3, none⟩) (bs [0, 97, 98]) := by
    have h := r2
    rcases h with h | ⟨b, o, e, hc⟩
    · cases h
    · cases e
      refine .inr ⟨gb, 3, rfl, fun j u hu => ?_⟩
      have hcell := hc (3 + j) u (by rw [Nat.add_comm 3 j]; exact hu)
      rw [Nat.zero_add] at hcell
      have hlt := block_lt_of_cell hcell
      rw [World.cell?_of_block (a := ⟨gb, 3 + j, none⟩) (hg3.block gb hlt (by intro q; rcases q with q | ⟨a, q, _⟩; omega; cases q))]
      exact hcell
  have hA3 : ∀ a, A3 = some a → w2.heap.size ≤ a.block := by
    intro a ha
    rcases ha3 a ha with ⟨a0, q, _⟩ | q
    · cases q
    · exact q
  have b03 := Lib.hid (hg3.below b02.out b02.out.size (by intro i hi; rcases hi with hi | ⟨a, q, _⟩; omega; cases q))
  have hs32 := hg3.size
  clear hs2 hg3 ha3 b02 r2
  go_wp2_with fail
  refine (next_none w.heap.size A3 [2, 0, 0] w3 hs3 (by simp) hz3).mono ?_
  rintro e w4 ⟨rfl, hb4⟩
  have hs4 := hs3.below hb4
  have r4 := r3.below hb4
  have b04 := Lib.hid (below_step b03.out hb4 (Nat.le_refl _))
  have hs43 := hb4.size
  clear hs3 r3 hb4 b03
  go_wp2_with fail
  refine (feed_ok w.heap.size A3 (some ⟨gb, 3, none⟩) 3 (c2 - 3) [2, 0, 0] [0, 97, 98] w4 hs4 rfl r4 (by simp)).mono ?_
  rintro e w5 ⟨A5, rfl, hs5, hg5, ha5⟩
  have b05 := Lib.hid (hg5.below b04.out b04.out.size (by intro i hi; rcases hi with hi | ⟨a, q, q2⟩; omega; have := hA3 a q; omega))
  have hsz5 := hg5.size
  clear hs4 hg5 ha5 b04 r4
  go_wp2_with fail
  have hnx := next_ok w.heap.size A5 [2, 0, 0, 0, 97, 98] w5 hs5 (by simp) (by rw [hz6])
  rw [hz6] at hnx
  refine hnx.mono ?_
  rintro e w6 ⟨A6, B6, n6, c6, rfl, hn6, o6, hs6, hg6, ha6⟩
  have hge5 := fun i (hi : StrP w.heap.size A5 i) => hs5.ge hi
  have b06 := Lib.hid (hg6.below b05.out b05.out.size hge5)
  obtain rfl : n6 = 2 := hn6.out.symm
  have hr : (convert 22 9 (.slice B6 2 c6)).run Try.prog w6 = .ok (.string ⟨#[97, 98]⟩) w6 := run_str w6 (l := [97, 98]) c6 o6.row
  clear hs5 hs6 hg6 ha6 hge5 o6 hnx
  go_wp2
  go_ret
  exact ⟨rfl, b06.out⟩
end Go.Proofs.Ytgcognefggbpjaa
