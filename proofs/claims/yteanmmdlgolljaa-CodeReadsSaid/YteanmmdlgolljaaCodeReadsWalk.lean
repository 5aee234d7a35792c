/-
  The walk of CodeReads: it returns true and changes nothing that was there.
  Conditions: the bytes and the questions lie in memory as lists; their number is bounded.
-/
import Derived.Test.YteanmmdlgolljaaCodeR3
namespace Go.Proofs.Yteanmmdlgolljaa
open Go.RowKit Go.Sort Go.Lib
set_option linter.unusedVariables false
set_option maxRecDepth 100000 in
set_option maxHeartbeats 8000000 in
theorem codeReads_walk (A : Option Addr) (c : Nat) (b : List UInt8) (A2 : Option Addr) (c2 : Nat) (l : List Que) (w : World) (hr : Row w A (bs b)) (hcap : b.length ≤ c) (hc : c ≤ 140737488351232)
    (hr2 : Row w A2 (l.flatMap Que.cells)) (hl : l.length ≤ maxLen) :
    Calls Try.prog 5 #[.slice A b.length c, .slice A2 l.length c2] w fun e w' => e = .returned (.bool true) ∧ Below w.heap.size w w' := by
  unfold maxLen at hl
  go_enter Try.func5, Try.ntmps5
  by_cases h2000 : 2000 < l.length
  · go_wp2_with fail
    refine (known02_any w).mono ?_
    rintro e w1 ⟨rfl, hb⟩
    go_wp2
    go_ret
    exact ⟨rfl, hb⟩
  · go_wp2_with fail
    refine (lent02_any A c b w hr (by omega)).mono ?_
    rintro e w1 ⟨gx, cx, rfl, hcx, hcx2, hgx, hgx1, ox, b1⟩
    have rx : Row w1 (some ⟨gx, 0, none⟩) (bs b) := by
      have := ox.row.take b.length
      rwa [← bs_length b, bs_append, List.take_left] at this
    have HOX := Lib.hid ox
    go_wp2_with fail
    refine (newreaderO_any (some ⟨gx, 0, none⟩) cx b w1 rx (by omega)).mono ?_
    rintro e w2 ⟨g, A3, c3, rfl, hg, hg2, B3, o3, b2⟩
    have b12 := below_join b1 b2
    have s1 := b1.size
    have s2 := b2.size
    have ox2 := HOX.out.below b2
    go_wp2_with fail
    refine (kept02_any (some ⟨gx, 0, none⟩) A cx c b w2 ox2.row hcx hcx2 (hr.below b12) hcap).mono ?_
    rintro e w3 ⟨rfl, rfl⟩
    go_wp2
    clear rx ox
    unfold maxLen at hcx2
    go_loopw [7] (fun i wr => ∃ (k : Nat) (X : List UInt8), i = .int .i64 k ∧ k ≤ b.length ∧ X.length = b.length + 2 ∧ Own wr w.heap.size (some ⟨gx, 0, none⟩) cx X ∧ Blk wr g 76 #[.slice A3 b.length c3, .int .i64 0] ∧ Own wr w1.heap.size A3 c3 b ∧ Below w.heap.size w wr ∧ w2.heap.size ≤ wr.heap.size) (fun i _ => b.length - (intOf i).toNat)
    case atStart => exact ⟨0, b ++ [77, 78], rfl, by omega, by simp, ox2, B3, o3, b12, Nat.le_refl _⟩
    case round =>
      obtain ⟨k, X, rfl, hk, hX, hO, hB, hO3, hbel, hws⟩ := hrel
      by_cases hlt : k < b.length
      · obtain ⟨u, hu⟩ : ∃ u, X[k]? = some u := ⟨_, List.getElem?_eq_getElem (by omega)⟩
        have fx := hO.cell hu
        have fz := hO.frozen k
        have xx := xor_u8 u 85
        rw [show (((85 : UInt8).toNat : Nat) : Int) = 85 from rfl] at xx
        obtain ⟨v, hv⟩ : ∃ v, u ^^^ 85 = v := ⟨_, rfl⟩
        rw [hv] at xx
        have HX := Lib.hid hX
        have HO := Lib.hid hO
        have HB := Lib.hid hB
        have HO3 := Lib.hid hO3
        have HQ := Lib.hid hbel
        clear hX hu hv hO hbel hB hO3
        go_wp2
        go_roundw
        case rel =>
          have gg := grownBy_setCell wr gx k (.int .u8 (v.toNat : Int))
          refine ⟨k + 1, X.set k v, by go_num, by omega, by rw [List.length_set]; exact HX.out, HO.out.set_ k v, ?_, HO3.out.kept gg (by omega), below_grown HQ.out gg HQ.out.size (by omega), by simpa using hws⟩
          have := gg.block g HB.out.lt (by simp; omega)
          have hq := HB.out
          unfold Blk at hq ⊢
          rw [this]; exact hq
        case measure => simp [intOf]; omega
      · obtain rfl : k = b.length := by omega
        have hswr := hbel.size
        have R0 : RdAt 76 wr g ⟨b, 0⟩ := ⟨A3, b.length, c3, hB, rfl, ⟨hO3.le.1, by omega⟩, hO3.le.2, hO3.row⟩
        have q1 := Blk.new wr 47 #[.slice A b.length c, .int .i64 0]
        have b0 : Below wr.heap.size wr (wr.alloc (.cells #[.slice A b.length c, .int .i64 0] 47)) := (Below.refl _ _).alloc (Nat.le_refl _) _
        have R1 : RdAt 47 (wr.alloc (.cells #[.slice A b.length c, .int .i64 0] 47)) wr.heap.size ⟨b, 0⟩ := ⟨A, b.length, c, q1, rfl, ⟨hcap, by omega⟩, by unfold maxLen; omega, (hr.below hbel).alloc _⟩
        have R2 := R0.below b0
        have hsz : (wr.alloc (.cells #[.slice A b.length c, .int .i64 0] 47)).heap.size = wr.heap.size + 1 := by simp
        have HT0 : Hid (Two (wr.heap.size + 1) (wr.alloc (.cells #[.slice A b.length c, .int .i64 0] 47)) g wr.heap.size ⟨b, 0⟩) := Lib.hid ⟨R2.in_ (by omega), R1.in_ (by omega)⟩
        have hbq : Hid (Below w.heap.size w (wr.alloc (.cells #[.slice A b.length c, .int .i64 0] 47))) := Lib.hid (below_step hbel b0 (Nat.le_refl _))
        clear q1 b0 R1 R2 R0 hB hO3 hO hbel hX
        go_wp2
        generalize wr.alloc (.cells #[.slice A b.length c, .int .i64 0] 47) = w4 at *
        generalize hg2' : wr.heap.size = g2 at *
        go_loopw [9] (fun i wr => ∃ (k : Nat) (r : CodeM.Rd), i = .int .i64 k ∧ k ≤ l.length ∧ Two (g2 + 1) wr g g2 r ∧ Below w.heap.size w wr ∧ g2 + 1 ≤ wr.heap.size) (fun i _ => l.length - (intOf i).toNat)
        case atStart => exact ⟨0, ⟨b, 0⟩, rfl, by omega, HT0.out, hbq.out, by omega⟩
        case round =>
          obtain ⟨k, r, rfl, hk, hT, hbel, hsq⟩ := hrel
          have hws' := hbel.size
          by_cases hlt : k < l.length
          · obtain ⟨q, hq⟩ : ∃ u, l[k]? = some u := ⟨_, List.getElem?_eq_getElem (by omega)⟩
            obtain ⟨bq, oq, rfl, e1, e2⟩ := row_que (hr2.below hbel) hq
            have e1d : wr.drew.cell? ⟨bq, oq + k * 2, none⟩ = some (.int .i64 q.kind) := e1
            have e2d : wr.drew.cell? ⟨bq, oq + k * 2 + 1, none⟩ = some (.int .i64 q.most) := e2
            have AK := Lib.hid (ask_any (g2 + 1) w.heap.size g g2 r q.kind q.most wr.drew hT (by omega) (by omega) (by omega) (by omega) hsq q.h0 q.h1)
            have BD : Hid (Below w.heap.size w wr.drew) := Lib.hid ⟨hbel.os, hbel.tape, hbel.output, hbel.size, hbel.block⟩
            clear e1 e2 hq hT hbel
            go_wp2
            go_region_with (first
              | (go_at_call 29
                 refine AK.out.mono ?_
                 rintro e w5 ⟨rfl, ⟨r', T5⟩, b5⟩
                 obtain ⟨A5, n5, c5, B5, rfl, _, _, _, _⟩ := T5.2
                 have y0 := B5.cell 0
                 have y1 := B5.cell 1
                 simp only [List.getElem?_toArray, List.getElem?_cons_zero, List.getElem?_cons_succ] at y0 y1
                 have HT5 := Lib.hid T5
                 have HB5 := Lib.hid (BD.out.trans b5)
                 have HS5 : Hid (g2 + 1 ≤ w5.heap.size) := Lib.hid (Nat.le_trans hsq b5.size)
                 clear T5 B5 b5)
              | (go_at_call 17
                 refine (left_any g _ _ HT5.out.1.at_).mono ?_
                 rintro e w6 ⟨rfl, rfl⟩)
              | (go_at_call 16
                 refine (err_any g _ _ HT5.out.1.at_).mono ?_
                 rintro e w6 ⟨rfl, rfl⟩))
            all_goals go_wp2
            all_goals refine ⟨⟨k + 1, _, by go_num, by omega, HT5.out, HB5.out, HS5.out⟩, ?_⟩
            all_goals (simp [intOf]; omega)
          · go_wp2_with fail
            refine (known02_any wr).mono ?_
            rintro e w9 ⟨rfl, hb9⟩
            go_wp2
            go_ret
            exact ⟨rfl, below_step hbel hb9 (Nat.le_refl _)⟩
end Go.Proofs.Yteanmmdlgolljaa
