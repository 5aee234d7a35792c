/-
  The walk of CodeBack: it returns true and changes nothing that was there.
  Conditions: the bytes lie in memory as lists; their number is bounded.
-/
import Derived.Test.YteanmmdlgolljaaCodeM2
namespace Go.Proofs.Yteanmmdlgolljaa
open Go.RowKit Go.Sort Go.Lib
set_option linter.unusedVariables false
theorem putuv_len (A : Option Addr) (c n k : Nat) (l : List UInt8) (w : World) (hr : Row w A (bs l)) (hk : l.length = k) (hc : k ≤ 140737488355000) (hn : n < 18446744073709551616) :
    Calls Try.prog 19 #[.slice A k c, .int .u64 (n : Int)] w (NewB (l ++ CodeM.uv n) w) := by
  subst hk; exact putuv_any A c n l w hr hc hn
theorem puttext_len (A A2 : Option Addr) (c c2 k k2 : Nat) (l s : List UInt8) (w : World) (hr : Row w A (bs l)) (hr2 : Row w A2 (bs s)) (hk : l.length = k) (hk2 : s.length = k2) (hc : k + k2 ≤ 140737488354000) :
    Calls Try.prog 24 #[.slice A k c, .slice A2 k2 c2] w (NewB (l ++ CodeM.tx s) w) := by
  subst hk hk2; exact PutText_any A A2 c c2 l s w hr hr2 hc
theorem newreader_len (A : Option Addr) (c k : Nat) (l : List UInt8) (w : World) (hr : Row w A (bs l)) (hk : l.length = k) (hc : k ≤ 140737488355328) :
    Calls Try.prog 14 #[.slice A k c] w (NewR 76 ⟨l, 0⟩ w) := by
  subst hk; exact newreader_any A c l w hr hc
set_option maxRecDepth 100000 in
set_option maxHeartbeats 1000000 in
theorem codeBack_core (A A2 : Option Addr) (c c2 n : Nat) (s z : List UInt8) (w : World) (hr : Row w A (bs s)) (hc : s.length ≤ 1048576) (hr2 : Row w A2 (bs z)) (hc2 : z.length ≤ 1048576) (hn : n < 18446744073709551616) :
    Calls Try.prog 7 #[.slice A s.length c, .slice A2 z.length c2, .int .u64 (n : Int)] w fun e w' => e = .returned (.bool true) ∧ Below w.heap.size w w' := by
  have hm : n % 65536 < 65536 := Nat.mod_lt _ (by omega)
  have hw16 : IntKind.u16.wrap (n : Int) = ((n % 65536 : Nat) : Int) := by rw [IntKind.wrap_u16]; omega
  obtain ⟨m, em⟩ : ∃ m, n % 65536 = m := ⟨_, rfl⟩
  have hem : (n : Int) % 65536 = (m : Int) := by omega
  rw [em] at hm hw16
  clear em
  have hlen : (CodeM.fx 2 m ++ CodeM.uv n ++ CodeM.tx s).length ≤ 1048600 := by
    have h1 := CodeM.fx_length 2 m
    have h2 := CodeM.uv_length n
    have h3 := CodeM.uv_length s.length
    unfold CodeM.tx
    simp only [List.length_append]; omega
  go_enter Try.func7, Try.ntmps7
  go_wp2_with fail
  refine (Put16_any none 0 m [] w (.inl rfl) (by simp) hm).mono ?_
  rintro e w1 ⟨A1, n1, c1, rfl, hn1, h1, b1⟩
  rw [List.nil_append] at h1 hn1
  go_wp2_with fail
  have hk1 : n1 ≤ 16 := by
    have := hn1.out
    rw [CodeM.fx_length] at this; omega
  refine (putuv_len A1 c1 n n1 (CodeM.fx 2 m) w1 h1.row hn1.out (by omega) hn).mono ?_
  rintro e w2 ⟨A3, n3, c3, rfl, hn3, h3, b3⟩
  have hk3 : n3 ≤ 32 := by
    have := hn3.out
    have h2 := CodeM.uv_length n
    rw [List.length_append, CodeM.fx_length] at this; omega
  have b13 := below_join b1 b3
  go_wp2_with fail
  refine (puttext_len A3 A c3 c n3 s.length (CodeM.fx 2 m ++ CodeM.uv n) s w2 h3.row (hr.below b13) hn3.out rfl (by omega)).mono ?_
  rintro e w3 ⟨A4, n4, c4, rfl, hn4, h4, b4⟩
  have b14 := below_join b13 b4
  obtain ⟨b, hb⟩ : ∃ b, CodeM.fx 2 m ++ CodeM.uv n ++ CodeM.tx s = b := ⟨_, rfl⟩
  rw [hb] at hn4 h4 hlen
  have HBB := Lib.hid hb
  clear hb hk1 hk3 hn1 hn3 h1 h3
  have hn4' := hn4.out
  have hn4b : n4 ≤ 1048600 := by omega
  have hs3 := b14.size
  clear hn4'
  have HN4 := hn4
  go_wp2_with (at_builtin; refine wpl_app' _ rfl (.tmp 21) (.tmp 22) rfl w3.heap.size (some ⟨w3.heap.size, 0, none⟩) 0 [] 0 rfl rfl (Own.made w3 #[] 0 (Nat.le_refl _) (by unfold maxLen; omega) rfl) A4 c4 b n4 rfl HN4.out (h4.row.alloc _) ?_ ?_ ?_)
  · omega
  · simp
  intro A5 c5 w5 h5 hg5 _
  have b35 : Below w3.heap.size w3 w5 := ((Below.refl w3.heap.size w3).alloc (Nat.le_refl _) (.cells #[] 5)).grown hg5 (by simp) (by intro k hk; simp [Value.ownBlock] at hk; omega)
  have b15 := below_join b14 b35
  have hs5 := b35.size
  clear hg5
  go_wp2_with (at_builtin; refine wpl_app' _ rfl (.tmp 23) (.tmp 24) rfl w3.heap.size A5 c5 b n4 rfl HN4.out h5 A2 c2 z z.length rfl rfl (hr2.below b15) ?_ hs5 ?_)
  · omega
  intro A6 c6 w6 h6 hg6 _
  have b56 : Below w3.heap.size w3 w6 := h5.grown_below (by rw [HN4.out]) hg6 b35 (Nat.le_refl _) hs5
  have b16 := below_join b14 b56
  have hs6 := b16.size
  clear hg6
  have HL6 : Hid ((b ++ z).length = n4 + z.length) := Lib.hid (by rw [List.length_append, HN4.out])
  go_wp2_with fail
  refine (newreader_len A6 c6 (n4 + z.length) (b ++ z) w6 h6.row HL6.out (by omega)).mono ?_
  rintro e w7 ⟨g, rfl, hg, h7, b67⟩
  have b17 := below_join b16 b67
  have hgw : w.heap.size ≤ g := by omega
  rw [← HBB.out, List.append_assoc, List.append_assoc] at h7
  have q1 := CodeM.back_fixed hm (CodeM.uv n ++ (CodeM.tx s ++ z))
  have q2 := CodeM.back_uv hn (CodeM.tx s ++ z)
  have q3 := CodeM.back_text (s := s) (by omega) z
  go_wp2_with fail
  refine (u16_any g _ w7 h7).mono ?_
  rw [q1]
  rintro e w8 ⟨rfl, h8, g8⟩
  have b18 : Below w.heap.size w w8 := below_grown b17 g8 b17.size hgw
  go_wp2_with fail
  refine (uv_any g _ w8 h8).mono ?_
  rw [q2]
  rintro e w9 ⟨rfl, h9, g9⟩
  have b19 : Below w.heap.size w w9 := below_grown b18 g9 b18.size hgw
  go_wp2_with fail
  refine (text_any g _ (s.length : Int) w9 h9 (by omega) (by omega)).mono ?_
  rw [q3]
  rintro e w10 ⟨A7, n7, c7, rfl, hn7, h10, r10, g10⟩
  have b110 : Below w.heap.size w w10 := below_grown b19 g10 b19.size hgw
  have B10 : Hid (Below w3.heap.size w3 w10) := Lib.hid (by
    have q0 := b56.size
    have q7 : Below w3.heap.size w3 w7 := below_step b56 b67 (Nat.le_refl _)
    have q8 : Below w3.heap.size w3 w8 := below_grown q7 g8 q7.size (by omega)
    have q9 : Below w3.heap.size w3 w9 := below_grown q8 g9 q8.size (by omega)
    exact below_grown q9 g10 q9.size (by omega))
  clear q1 q2 q3 h7 h8 h9 g8 g9 g10
  have s1 : (convert 22 9 (.slice A7 n7 c7)).run Try.prog w10 = .ok (.string (str s)) w10 := by
    have := run_str w10 c7 h10.row
    rw [hn7.out] at this; exact this
  have s2 := run_str w10 c (hr.below b110)
  go_wp2_with (first
    | (go_at_call 16; refine (err_any g _ w10 r10).mono ?_; rintro e w1 ⟨rfl, rfl⟩)
    | (go_at_call 17; refine (left_any g _ w10 r10).mono ?_; rintro e w1 ⟨rfl, rfl⟩))
  have b37 := below_join b56 b67
  have hs7 := b56.size
  have hs8 := b37.size
  have hs9 := b14.size
  have hcap := h4.le.1
  rw [HN4.out] at hcap
  have Q10 : Hid (Below w3.heap.size w3 w10) := B10
  clear s1 s2 h10 r10 hn7 hn4 hlen
  go_loopw [12] (fun i wr => ∃ k : Nat, i = .int .i64 k ∧ k ≤ 40 ∧ Below w3.heap.size w3 wr) (fun i _ => 40 - (intOf i).toNat)
  case atStart => exact ⟨0, rfl, by omega, Q10.out⟩
  case round =>
    obtain ⟨k, rfl, hk, hbel⟩ := hrel
    have hwr := hbel.size
    have hww := below_step b14 hbel (Nat.le_of_eq rfl)
    by_cases h1 : k < n4
    · by_cases h2 : k < 40
      · go_wp2_with fail
        have hjl : (b.take (n4 - 1 - k)).length = n4 - 1 - k := by
          have := HN4.out
          rw [List.length_take]; omega
        have hrj : Row wr A4 (bs (b.take (n4 - 1 - k))) := by
          rw [bs_take]; exact (h4.row.below hbel).take _
        have hcut := CodeM.cut_all (s := s) hm hn (by omega) (n4 - 1 - k) (by have := HN4.out; rw [HBB.out]; omega)
        rw [HBB.out] at hcut
        have HC := Lib.hid hcut
        have HJ := Lib.hid hjl
        clear hcut hjl
        refine (newreader_len A4 c4 (n4 - 1 - k) (b.take (n4 - 1 - k)) wr hrj HJ.out (by omega)).mono ?_
        rintro e v7 ⟨g', rfl, hg', r7, d7⟩
        have e7 : Below w3.heap.size w3 v7 := below_step hbel d7 (Nat.le_refl _)
        have hg3 : w3.heap.size ≤ g' := by omega
        go_wp2_with fail
        refine (u16_any g' _ v7 r7).mono ?_
        rintro e v8 ⟨rfl, r8, d8⟩
        have e8 : Below w3.heap.size w3 v8 := below_grown e7 d8 e7.size hg3
        go_wp2_with fail
        refine (uv_any g' _ v8 r8).mono ?_
        rintro e v9 ⟨rfl, r9, d9⟩
        have e9 : Below w3.heap.size w3 v9 := below_grown e8 d9 e8.size hg3
        go_wp2_with fail
        refine (text_any g' _ (s.length : Int) v9 r9 (by omega) (by omega)).mono ?_
        rintro e v10 ⟨A8, n8, c8, rfl, hn8, _, r10, d10⟩
        have e10 : Below w3.heap.size w3 v10 := below_grown e9 d10 e9.size hg3
        go_wp2_with fail
        refine (err_any g' _ v10 r10).mono ?_
        rw [HC.out]
        rintro e v11 ⟨rfl, rfl⟩
        clear r7 r8 r9 r10 d7 d8 d9 d10
        go_wp2
        go_roundw
        case rel => exact ⟨k + 1, by go_num, by omega, e10⟩
        case measure => simp [intOf]; omega
      · go_wp2_with fail
        refine (known02_any wr).mono ?_
        rintro e v ⟨rfl, hv⟩
        go_wp2
        go_ret
        exact ⟨rfl, below_step hww hv (Nat.le_refl _)⟩
    · go_wp2_with fail
      refine (known02_any wr).mono ?_
      rintro e v ⟨rfl, hv⟩
      go_wp2
      go_ret
      exact ⟨rfl, below_step hww hv (Nat.le_refl _)⟩
theorem codeBack_walk (A0 : Option Addr) (c0 : Nat) (l0 : List UInt8) (A1 : Option Addr) (c1 : Nat) (l1 : List UInt8) (a2 : Int) (w : World)
    (r0 : Row w A0 (bs l0)) (h0 : l0.length ≤ c0) (m0 : l0.length ≤ 1048576) (r1 : Row w A1 (bs l1)) (h1 : l1.length ≤ c1) (m1 : l1.length ≤ 1048576) (w2 : (Lit.int .u64 a2).wf = true) :
    Calls Try.prog 7 #[.slice A0 l0.length c0, .slice A1 l1.length c1, .int .u64 a2] w fun e w' => e = .returned (.bool true) ∧ Below w.heap.size w w' := by
  have g2 : 0 ≤ a2 ∧ a2 ≤ 18446744073709551615 := by simpa [Lit.wf, IntKind.min, IntKind.max, IntKind.signed, IntKind.bits] using w2
  obtain ⟨n, rfl⟩ := Int.eq_ofNat_of_zero_le g2.1
  exact codeBack_core A0 A1 c0 c1 n l0 l1 w r0 m0 r1 m1 (by omega)
end Go.Proofs.Yteanmmdlgolljaa
