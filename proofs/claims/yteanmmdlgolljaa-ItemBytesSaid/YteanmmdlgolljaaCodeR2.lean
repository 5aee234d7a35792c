/-
  One question, asked of both readers.
  Conditions: both readers lie in blocks of their own; their bytes lie in memory as lists, below B.
-/
import Derived.Test.YteanmmdlgolljaaCodeR1
import Derived.BigQuiet
import Derived.BigRegion
namespace Go.Proofs.Yteanmmdlgolljaa
open Go.RowKit Go.Sort Go.Lib
set_option linter.unusedVariables false
/-- Both readers are the same. -/
def Two (B : Nat) (w : World) (g g2 : Nat) (r : CodeM.Rd) : Prop := RdIn B 76 w g r ∧ RdIn B 47 w g2 r
/-- What a question answers. -/
def AskPost (B C g g2 : Nat) (w : World) (e : Ending) (w' : World) : Prop := e = .returned (.bool true) ∧ (∃ r, Two B w' g g2 r) ∧ Below C w w'
theorem Two.below {B g g2 : Nat} {w w' : World} {r : CodeM.Rd} (h : Two B w g g2 r) (hb : Below w.heap.size w w') : Two B w' g g2 r := ⟨h.1.below hb, h.2.below hb⟩
theorem Two.above {B g g2 b : Nat} {w w' : World} {r : CodeM.Rd} (h : Two B w g g2 r) (hg : w.grownBy w' (some b)) (h1 : b ≠ g) (h2 : b ≠ g2) (hb : B ≤ b) : Two B w' g g2 r := ⟨h.1.above hg h1 hb, h.2.above hg h2 hb⟩
set_option maxRecDepth 100000 in
set_option maxHeartbeats 4000000 in
theorem ask_any (B C g g2 : Nat) (r : CodeM.Rd) (kind most : Int) (w : World) (h : Two B w g g2 r) (hne : g ≠ g2) (hC : C ≤ g) (hC2 : C ≤ g2) (hCB : C ≤ B) (hBw : B ≤ w.heap.size) (hm0 : -9223372036854775808 ≤ most) (hm1 : most < 9223372036854775808) :
    Calls Try.prog 29 #[.pointer (some ⟨g, 0, none⟩), .pointer (some ⟨g2, 0, none⟩), .agg #[.int .i64 kind, .int .i64 most]] w (AskPost B C g g2 w) := by
  have hl1 := h.1.lt
  have hl2 := h.2.lt
  have hb0 : Below w.heap.size w (w.alloc (.cells #[.int .i64 kind, .int .i64 most] 50)) := (Below.refl _ _).alloc (Nat.le_refl _) _
  have T0 := h.below hb0
  have BX := Blk.new w 50 #[.int .i64 kind, .int .i64 most]
  have hsz : (w.alloc (.cells #[.int .i64 kind, .int .i64 most] 50)).heap.size = w.heap.size + 1 := by simp
  have HB0 : Hid (Below C w (w.alloc (.cells #[.int .i64 kind, .int .i64 most] 50))) := Lib.hid (hb0.mono (by omega))
  have x0 := BX.cell 0
  have x1 := BX.cell 1
  simp only [List.getElem?_toArray, List.getElem?_cons_zero, List.getElem?_cons_succ] at x0 x1
  have TH := Lib.hid T0
  clear T0 hb0
  by_cases k0 : kind = 0
  · subst k0
    go_enter Try.func29, Try.ntmps29
    have hlt := CodeM.fixed_lt 1 r
    have hw : IntKind.u64.wrap ((r.fixed 1).1 : Int) = ((r.fixed 1).1 : Int) := by rw [IntKind.wrap_u64]; omega
    have hn0 : 0 ≤ ((r.fixed 1).1 : Int) := by omega
    go_wp2_with fail
    refine (u8I_any g r _ TH.out.1).mono ?_
    rintro e w1 ⟨rfl, h1, g1⟩
    have t1 := TH.out.2.other TH.out.1.at_ g1 hne
    have s1 := g1.size
    have b1 : Below C w w1 := below_grown HB0.out g1 (by omega) hC
    clear g1
    go_wp2_with fail
    refine (refnumI_any g2 r 1 w1 t1 (by omega)).mono ?_
    rintro e w2 ⟨rfl, h2, g3⟩
    have t2 := h1.other t1.at_ g3 hne.symm
    have b2 : Below C w w2 := below_grown b1 g3 (by omega) hC2
    clear g3
    go_wp2
    go_ret
    exact ⟨rfl, ⟨_, t2, h2⟩, b2⟩
  · skip
    by_cases k1 : kind = 1
    · subst k1
      go_enter Try.func29, Try.ntmps29
      have hlt := CodeM.fixed_lt 2 r
      have hw : IntKind.u64.wrap ((r.fixed 2).1 : Int) = ((r.fixed 2).1 : Int) := by rw [IntKind.wrap_u64]; omega
      have hn0 : 0 ≤ ((r.fixed 2).1 : Int) := by omega
      go_wp2_with fail
      refine (u16I_any g r _ TH.out.1).mono ?_
      rintro e w1 ⟨rfl, h1, g1⟩
      have t1 := TH.out.2.other TH.out.1.at_ g1 hne
      have s1 := g1.size
      have b1 : Below C w w1 := below_grown HB0.out g1 (by omega) hC
      clear g1
      go_wp2_with fail
      refine (refnumI_any g2 r 2 w1 t1 (by omega)).mono ?_
      rintro e w2 ⟨rfl, h2, g3⟩
      have t2 := h1.other t1.at_ g3 hne.symm
      have b2 : Below C w w2 := below_grown b1 g3 (by omega) hC2
      clear g3
      go_wp2
      go_ret
      exact ⟨rfl, ⟨_, t2, h2⟩, b2⟩
    · skip
      by_cases k2 : kind = 2
      · subst k2
        go_enter Try.func29, Try.ntmps29
        have hlt := CodeM.fixed_lt 4 r
        have hw : IntKind.u64.wrap ((r.fixed 4).1 : Int) = ((r.fixed 4).1 : Int) := by rw [IntKind.wrap_u64]; omega
        have hn0 : 0 ≤ ((r.fixed 4).1 : Int) := by omega
        go_wp2_with fail
        refine (u32I_any g r _ TH.out.1).mono ?_
        rintro e w1 ⟨rfl, h1, g1⟩
        have t1 := TH.out.2.other TH.out.1.at_ g1 hne
        have s1 := g1.size
        have b1 : Below C w w1 := below_grown HB0.out g1 (by omega) hC
        clear g1
        go_wp2_with fail
        refine (refnumI_any g2 r 4 w1 t1 (by omega)).mono ?_
        rintro e w2 ⟨rfl, h2, g3⟩
        have t2 := h1.other t1.at_ g3 hne.symm
        have b2 : Below C w w2 := below_grown b1 g3 (by omega) hC2
        clear g3
        go_wp2
        go_ret
        exact ⟨rfl, ⟨_, t2, h2⟩, b2⟩
      · skip
        by_cases k3 : kind = 3
        · subst k3
          go_enter Try.func29, Try.ntmps29
          have hlt := CodeM.fixed_lt 8 r
          have hw : IntKind.u64.wrap ((r.fixed 8).1 : Int) = ((r.fixed 8).1 : Int) := by rw [IntKind.wrap_u64]; omega
          have hn0 : 0 ≤ ((r.fixed 8).1 : Int) := by omega
          go_wp2_with fail
          refine (u64I_any g r _ TH.out.1).mono ?_
          rintro e w1 ⟨rfl, h1, g1⟩
          have t1 := TH.out.2.other TH.out.1.at_ g1 hne
          have s1 := g1.size
          have b1 : Below C w w1 := below_grown HB0.out g1 (by omega) hC
          clear g1
          go_wp2_with fail
          refine (refnumI_any g2 r 8 w1 t1 (by omega)).mono ?_
          rintro e w2 ⟨rfl, h2, g3⟩
          have t2 := h1.other t1.at_ g3 hne.symm
          have b2 : Below C w w2 := below_grown b1 g3 (by omega) hC2
          clear g3
          go_wp2
          go_ret
          exact ⟨rfl, ⟨_, t2, h2⟩, b2⟩
        · skip
          by_cases k4 : kind = 4
          · subst k4
            go_enter Try.func29, Try.ntmps29
            go_wp2_with fail
            refine (uvI_any g r _ TH.out.1).mono ?_
            rintro e w1 ⟨rfl, h1, g1⟩
            have t1 := TH.out.2.other TH.out.1.at_ g1 hne
            have s1 := g1.size
            have b1 : Below C w w1 := below_grown HB0.out g1 (by omega) hC
            clear g1
            go_wp2_with fail
            refine (refuvI_any g2 r w1 t1).mono ?_
            rintro e w2 ⟨rfl, h2, g3⟩
            have t2 := h1.other t1.at_ g3 hne.symm
            have b2 : Below C w w2 := below_grown b1 g3 (by omega) hC2
            clear g3
            go_wp2
            go_ret
            exact ⟨rfl, ⟨_, t2, h2⟩, b2⟩
          · skip
            by_cases k5 : kind = 5
            · subst k5
              go_enter Try.func29, Try.ntmps29
              go_wp2_with fail
              generalize w.alloc (.cells #[.int .i64 5, .int .i64 most] 50) = w0 at *
              refine (textI_any g r most w0 TH.out.1 hm0 hm1).mono ?_
              rintro e w1 ⟨A1, n1, c1, rfl, hn1, o1, h1, g1⟩
              have t1 := TH.out.2.other TH.out.1.at_ g1 hne
              have s1 := g1.size
              have b1 : Below C w w1 := below_grown HB0.out g1 (by omega) hC
              have y1 := g1.cell x1 (by simp; omega)
              clear g1
              go_wp2
              have hg2 := TH.out.2.lt
              have hg1 := TH.out.1.lt
              obtain ⟨S, hS⟩ : ∃ S, (r.text most).1 = S := ⟨_, rfl⟩
              obtain ⟨r', hr'⟩ : ∃ r', (r.text most).2 = r' := ⟨_, rfl⟩
              have HRC := Lib.hid (fun (t1d : RdIn B 47 w1.drew g2 r) => reftextI_any g2 r most w1.drew t1d hm0 hm1)
              rw [hS] at hn1 o1 HRC
              rw [hr'] at h1 HRC
              have T1D : Hid (RdIn B 47 w1.drew g2 r) := Lib.hid t1
              have H1D : Hid (RdIn B 76 w1.drew g r') := Lib.hid h1
              have O1D : Hid (Own w1.drew w0.heap.size A1 c1 S) := Lib.hid o1
              have B1D : Hid (Below C w w1.drew) := Lib.hid ⟨b1.os, b1.tape, b1.output, b1.size, b1.block⟩
              have Y1D : w1.drew.cell? ⟨w.heap.size, 1, none⟩ = some (.int .i64 most) := y1
              have q1 : (convert 22 9 (.slice A1 n1 c1)).run Try.prog w1.drew = .ok (.string (str S)) w1.drew := by
                have := run_str w1.drew c1 O1D.out.row
                rw [hn1.out] at this; exact this
              have hCw : C ≤ w1.drew.heap.size := by show C ≤ w1.heap.size; omega
              clear h1 t1 o1 b1 y1 x0 x1 hS hr'
              go_region_with (first
                | (go_at_call 59
                   refine (HRC.out T1D.out).mono ?_
                   rintro e w3 ⟨A3, n3, c3, rfl, hn3, o3, h3, g3⟩
                   have O3 := Lib.hid (O1D.out.kept g3 hg2)
                   have q3 : (convert 22 9 (.slice A3 n3 c3)).run Try.prog w3 = .ok (.string (str S)) w3 := by
                     have := run_str w3 c3 o3.row
                     rw [hn3.out] at this; exact this
                   have q4 : (convert 22 9 (.slice A1 n1 c1)).run Try.prog w3 = .ok (.string (str S)) w3 := by
                     have := run_str w3 c1 O3.out.row
                     rw [hn1.out] at this; exact this
                   have H3 : Hid (Two B w3 g g2 r') := Lib.hid ⟨H1D.out.other T1D.out.at_ g3 hne.symm, h3⟩
                   have B3 : Hid (Below C w w3) := Lib.hid (below_grown B1D.out g3 hCw hC2)
                   clear g3 o3 h3))
              all_goals go_wp2
              all_goals
                have hB3 := B3.out.size
                have hcap3 := O3.out.le
                have hn1' : n1 ≤ c1 := by rw [hn1.out] at hcap3; exact hcap3.1
                have hc1 := hcap3.2
                unfold maxLen at hc1
                clear hcap3
                go_loopw [9] (fun i wr => ∃ (k : Nat) (X : List UInt8), i = .int .i64 k ∧ k ≤ n1 ∧ X.length = n1 ∧ Own wr w0.heap.size A1 c1 X ∧ Two B wr g g2 r' ∧ Below C w wr) (fun i _ => n1 - (intOf i).toNat)
                case atStart => exact ⟨0, S, rfl, by omega, hn1.out, O3.out, H3.out, B3.out⟩
                case round =>
                  obtain ⟨k, X, rfl, hk, hX, hO, hT, hbel⟩ := hrel
                  have hwr := hbel.size
                  by_cases hlt : k < n1
                  · obtain ⟨u, hu⟩ : ∃ u, X[k]? = some u := ⟨_, List.getElem?_eq_getElem (by omega)⟩
                    obtain ⟨ga, rfl, hga, _⟩ := hO.some_ (by intro q; rw [q] at hX; simp at hX; omega)
                    have fx := hO.cell hu
                    have fz := hO.frozen k
                    have xx := xor_u8 u 1
                    rw [show (((1 : UInt8).toNat : Nat) : Int) = 1 from rfl] at xx
                    obtain ⟨v, hv⟩ : ∃ v, u ^^^ 1 = v := ⟨_, rfl⟩
                    rw [hv] at xx
                    have HX := Lib.hid hX
                    have HO := Lib.hid hO
                    have HT := Lib.hid hT
                    have HQ := Lib.hid hbel
                    clear hX hu hv hO hT hbel
                    go_wp2
                    go_roundw
                    case rel => exact ⟨k + 1, X.set k v, by go_num, by omega, by rw [List.length_set]; exact HX.out, HO.out.set_ k v, HT.out.above (grownBy_setCell wr ga k _) (by omega) (by omega) (by omega), below_grown HQ.out (grownBy_setCell wr ga k _) (by omega) (by omega)⟩
                    case measure => simp [intOf]; omega
                  · obtain rfl : k = n1 := by omega
                    have HT := Lib.hid hT
                    have HQ := Lib.hid hbel
                    clear hT hbel hX hO
                    go_wp2
                    go_ret
                    exact ⟨rfl, ⟨_, HT.out⟩, HQ.out⟩
            · skip
              go_enter Try.func29, Try.ntmps29
              go_wp2
              go_ret
              exact ⟨rfl, ⟨r, TH.out⟩, HB0.out⟩
end Go.Proofs.Yteanmmdlgolljaa
