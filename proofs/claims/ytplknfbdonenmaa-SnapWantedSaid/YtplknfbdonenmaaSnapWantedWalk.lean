/-
  The walk of SnapWanted: it returns true and changes nothing that was there.
  Conditions: the heads, the looks and their stamps lie in memory as lists; each slice is at most 2^47 - 4096 bytes.
-/
import Derived.Test.YtplknfbdonenmaaWanW4
import Derived.Test.YtplknfbdonenmaaWanW5
import Derived.Test.YtplknfbdonenmaaWanW8
import Derived.BigQuiet
namespace Go.Proofs.Ytplknfbdonenmaa
open Go.RowKit Go.Sort
set_option linter.unusedVariables false
theorem row_bool {w : World} {g : Nat} {l : List Bool} {q : Nat} {v : Bool} (h : Row w (some ⟨g, 0, none⟩) (l.map Value.bool)) (hv : l[q]? = some v) : w.cell? ⟨g, q, none⟩ = some (.bool v) := by
  have hm : (l.map Value.bool)[q]? = some (.bool v) := by rw [List.getElem?_map, hv]; rfl
  rcases h with h | ⟨b, o, e, hc⟩
  · rw [h] at hm; cases hm
  · injection e with e
    injection e with e1 e2 e3
    subst e1 e2
    have := hc q (.bool v) hm
    rwa [Nat.zero_add] at this
set_option maxRecDepth 100000 in
set_option maxHeartbeats 4000000 in
theorem snapWanted_walk (A A2 : Option Addr) (c c2 : Nat) (chain : List Hed) (ks : List Lkv) (w : World) (hr : Row w A (chain.flatMap Hed.cells)) (hl : chain.length ≤ maxLen)
    (hr2 : Row w A2 (ks.flatMap Lkv.cells)) (hk : ks.length ≤ maxLen) (hst : ∀ s ∈ ks, Row w s.A (s.k.done.flatMap Stp.cells)) (hd : ∀ s ∈ ks, s.k.done.length ≤ maxLen) :
    Calls Try.prog 3 #[.slice A chain.length c, .slice A2 ks.length c2] w fun e w' => e = .returned (.bool true) ∧ Below w.heap.size w w' := by
  unfold maxLen at hl hk hd
  obtain ⟨N, hN⟩ : ∃ N, chain.length = N := ⟨_, rfl⟩
  obtain ⟨M, hM⟩ : ∃ M, ks.length = M := ⟨_, rfl⟩
  have HL := Lib.hid (large_anyW A A2 c c2 chain ks w (by omega) hk hr2 (fun s hs => by have := hd s hs; omega))
  have HST : Hid (Row w A (chain.flatMap Hed.cells) ∧ Row w A2 (ks.flatMap Lkv.cells) ∧ (∀ s ∈ ks, Row w s.A (s.k.done.flatMap Stp.cells)) ∧ (∀ s ∈ ks, s.k.done.length ≤ 9223372036854775807)) := Lib.hid ⟨hr, hr2, hst, fun s hs => by have := hd s hs; omega⟩
  rw [hN, hM] at HL
  rw [hN] at hl
  rw [hM] at hk
  simp only [hN, hM]
  have HN := Lib.hid hN
  have HM := Lib.hid hM
  clear hr hr2 hst hd hN hM
  go_enter Try.func3, Try.ntmps3
  go_wp2_with fail
  refine HL.out.mono ?_
  rintro e w1 ⟨r, rfl, _, rfl⟩
  clear HL
  cases r with
  | true =>
    go_wp2_with (go_at_call 5; refine (known17_any _).mono ?_; rintro e w' ⟨rfl, hb⟩)
    go_ret
    exact ⟨rfl, hb⟩
  | false =>
    by_cases g1 : 60 < N
    · go_wp2_with (go_at_call 5; refine (known17_any _).mono ?_; rintro e w' ⟨rfl, hb⟩)
      go_ret
      exact ⟨rfl, hb⟩
    by_cases g2 : 20 < M
    · go_wp2_with (go_at_call 5; refine (known17_any _).mono ?_; rintro e w' ⟨rfl, hb⟩)
      go_ret
      exact ⟨rfl, hb⟩
    have h1 := wanted_any chain A c A2 c2 ks w HST.out.1 (by rw [HN.out]; omega) ⟨HST.out.2.1, HST.out.2.2.1, HST.out.2.2.2, by rw [HM.out]; omega⟩
    have h2 := fun (w2 : World) (hb : Below w.heap.size w w2) => refwanted_any chain A c A2 c2 ks w2 (HST.out.1.below hb) (by rw [HN.out]; omega) ⟨HST.out.2.1.below hb, fun s hs => (HST.out.2.2.1 s hs).below hb, HST.out.2.2.2, by rw [HM.out]; omega⟩
    rw [HN.out, HM.out] at h1
    simp only [HN.out, HM.out] at h2
    obtain ⟨L, hL⟩ : ∃ L, WanM.wanted (lks ks) chain = L := ⟨_, rfl⟩
    simp only [hL] at h1 h2
    have hLl : L.length = N := by rw [← hL, ← WanM.st_all, WanM.st_len, HN.out]
    have H1 := Lib.hid h1
    have H2 := Lib.hid h2
    have HLL := Lib.hid hLl
    clear h1 h2 hL hLl HST
    go_wp2_with fail
    refine H1.out.mono ?_
    rintro e w1 ⟨g3, rfl, r3, b3⟩
    have HB3 := Lib.hid b3
    have HR3 := Lib.hid r3
    clear r3 b3 H1
    rw [HLL.out]
    go_wp2_with fail
    refine (H2.out _ HB3.out).mono ?_
    rintro e w2 ⟨g4, rfl, r4, b4⟩
    have H0 : Hid (Below w.heap.size w w2 ∧ Row w2 (some ⟨g3, 0, none⟩) (L.map Value.bool) ∧ Row w2 (some ⟨g4, 0, none⟩) (L.map Value.bool)) := Lib.hid ⟨below_join HB3.out b4, HR3.out.below b4, r4⟩
    clear r4 b4 HB3 HR3 H2
    rw [HLL.out]
    go_wp2
    go_loopw [7] (fun i wr => ∃ q : Nat, i = .int .i64 (q : Int) ∧ q ≤ N ∧ Hid (Below w.heap.size w wr ∧ Row wr (some ⟨g3, 0, none⟩) (L.map Value.bool) ∧ Row wr (some ⟨g4, 0, none⟩) (L.map Value.bool))) (fun i _ => N - (intOf i).toNat)
    case atStart => exact ⟨0, rfl, Nat.zero_le _, H0⟩
    case round =>
      obtain ⟨q, rfl, hq, HI⟩ := hrel
      clear H0
      by_cases hlt : q < N
      · obtain ⟨v, hv⟩ : ∃ v, L[q]? = some v := ⟨_, List.getElem?_eq_getElem (by rw [HLL.out]; exact hlt)⟩
        have c3 := row_bool HI.out.2.1 hv
        have c4 := row_bool HI.out.2.2 hv
        clear hv
        cases v with
        | true =>
          go_wp2_with fail
          go_quiet (fail)
          have HI2 : Hid (Below w.heap.size w (wr.drewN nq) ∧ Row (wr.drewN nq) (some ⟨g3, 0, none⟩) (L.map Value.bool) ∧ Row (wr.drewN nq) (some ⟨g4, 0, none⟩) (L.map Value.bool)) := Lib.hid ⟨⟨HI.out.1.os, HI.out.1.tape, HI.out.1.output, HI.out.1.size, HI.out.1.block⟩, HI.out.2.1, HI.out.2.2⟩
          go_wp2
          refine ⟨⟨q + 1, by go_num, by omega, HI2⟩, ?_⟩
          simp [RowKit.intOf]; omega
        | false =>
          go_wp2_with fail
          go_quiet (fail)
          have HI2 : Hid (Below w.heap.size w (wr.drewN nq) ∧ Row (wr.drewN nq) (some ⟨g3, 0, none⟩) (L.map Value.bool) ∧ Row (wr.drewN nq) (some ⟨g4, 0, none⟩) (L.map Value.bool)) := Lib.hid ⟨⟨HI.out.1.os, HI.out.1.tape, HI.out.1.output, HI.out.1.size, HI.out.1.block⟩, HI.out.2.1, HI.out.2.2⟩
          go_wp2
          refine ⟨⟨q + 1, by go_num, by omega, HI2⟩, ?_⟩
          simp [RowKit.intOf]; omega
      · obtain rfl : q = N := by omega
        go_wp2_with (go_at_call 5; refine (known17_any _).mono ?_; rintro e w' ⟨rfl, hb⟩)
        go_ret
        exact ⟨rfl, below_join HI.out.1 hb⟩
end Go.Proofs.Ytplknfbdonenmaa
