/-
  The document's reading of floats, and of a scale.
  Conditions: the reader lies in memory; its bytes lie below a bound.
-/
import Derived.Test.YtaadfalklddhcaaZStmQ1
import Derived.Test.YtaadfalklddhcaaZItemW6
import Derived.Test.YtaadfalklddhcaaZBj
namespace Go.Proofs.Ytaadfalklddhcaa
open Go.RowKit Go.Sort Go.Lib
set_option linter.unusedVariables false
set_option linter.unusedSimpArgs false
theorem scale_any (n : Nat) (w : World) (hn : n < 256) : Calls Try.prog 84 #[.int .u64 (n : Int)] w fun e w' => e = .returned (.int .i64 (StmM.s8 n)) ∧ w = w' := by
  have hw1 : IntKind.i64.wrap (n : Int) = (n : Int) := by rw [IntKind.wrap_i64]; omega
  by_cases h : 128 ≤ n
  · have hs : StmM.s8 n = (n : Int) - 256 := by unfold StmM.s8; rw [if_pos h]
    have hd : decide ((n : Int) < 128) = false := decide_eq_false (by omega)
    have hd2 : decide ((128 : Int) ≤ n) = true := decide_eq_true (by omega)
    have hw2 : IntKind.i64.wrap ((n : Int) - 256) = (n : Int) - 256 := by rw [IntKind.wrap_i64]; omega
    rw [hs]
    go_enter Try.func84, Try.ntmps84
    go_wp2
    go_ret
    exact ⟨rfl, rfl⟩
  · have hs : StmM.s8 n = (n : Int) := by unfold StmM.s8; rw [if_neg h]
    have hd : decide ((n : Int) < 128) = true := decide_eq_true (by omega)
    have hd2 : decide ((128 : Int) ≤ n) = false := decide_eq_false (by omega)
    rw [hs]
    go_enter Try.func84, Try.ntmps84
    go_wp2
    go_ret
    exact ⟨rfl, rfl⟩
/-- So many of n as could be read, and one more than may be at most. -/
def Enough (i n : Nat) (e : Nat) : Prop := i ≤ n ∧ (i = n ∨ 4097 ≤ i ∨ e ≠ 0)
def SFlP (B g n : Nat) (r1 : CodeM.Rd) (w : World) (e : Ending) (w' : World) : Prop := ∃ i A c, e = .returned (.slice A i c) ∧ Own64 w' w.heap.size A i c (StmM.fls i r1).1 ∧ RdIn B 73 w' g (StmM.fls i r1).2 ∧ w.grownBy w' (some g) ∧ Hid (Enough i n (StmM.fls i r1).2.e)
set_option maxRecDepth 100000 in
set_option maxHeartbeats 4000000 in
theorem someFloats_any (B g : Nat) (r : CodeM.Rd) (w : World) (hr : RdIn B 73 w g r) (hB : B ≤ w.heap.size) :
    Calls Try.prog 85 #[.pointer (some ⟨g, 0, none⟩)] w (SFlP B g (r.uv).1 (r.uv).2 w) := by
  have HUV := Lib.hid (refuvI_any g r w hr)
  have hgr := hr.lt
  have hn64 : (r.uv).1 < 18446744073709551616 := uv_lt r
  obtain ⟨p, hp0⟩ : ∃ p, r.uv = p := ⟨_, rfl⟩
  rw [hp0] at HUV hn64 ⊢
  obtain ⟨n, r1⟩ := p
  simp only at hn64 ⊢
  clear hr hp0
  go_enter Try.func85, Try.ntmps85
  go_wp2_with fail
  refine HUV.out.mono ?_
  rintro e w1 ⟨rfl, h1, hg1⟩
  have H1 := Lib.hid (And.intro h1 hg1)
  clear HUV h1 hg1
  go_wp2
  go_loopw [4, 5] (fun a i wr => ∃ (k : Nat) (A : Option Addr) (c : Nat), i = .int .u64 (k : Int) ∧ k ≤ n ∧ k ≤ 4097 ∧ a = .slice A k c ∧ Own64 wr w.heap.size A k c (StmM.fls k r1).1 ∧ RdIn B 73 wr g (StmM.fls k r1).2 ∧ w.grownBy wr (some g)) (fun _ i _ => n - (RowKit.intOf i).toNat)
  case atStart => exact ⟨0, none, 0, rfl, Nat.zero_le _, Nat.zero_le _, rfl, Own64.nil_ _ _, H1.out.1, H1.out.2⟩
  case round =>
    obtain ⟨k, A, c, rfl, hk, hk4, rfl, hO, hR, hg⟩ := hrel
    have HX := Lib.hid (And.intro hO (And.intro hR hg))
    have ce := hR.c1
    clear hO hR hg H1
    by_cases hlt : k < n
    · by_cases h4 : k ≤ 4096
      · by_cases he : (StmM.fls k r1).2.e = 0
        · rw [he] at ce
          have HC := Lib.hid (refnumI_any g _ 8 wr HX.out.2.1 (by omega))
          clear he
          go_wp2_with fail
          refine HC.out.mono ?_
          rintro e w2 ⟨rfl, hR2, hg2⟩
          have hO2 := Own64.keptA HX.out.1 hg2 hgr
          have hgw2 := HX.out.2.2.trans hg2
          have hga : w2.grownBy (w2.alloc (.cells #[.int .u64 (((StmM.fls k r1).2.fixed 8).1 : Int)] 27)) none := World.grownBy_alloc w2 _ none
          have hba : Below w2.heap.size w2 (w2.alloc (.cells #[.int .u64 (((StmM.fls k r1).2.fixed 8).1 : Int)] 27)) := (Below.refl _ _).alloc (Nat.le_refl _) _
          have hO3 : Own64 (w2.alloc (.cells #[.int .u64 (((StmM.fls k r1).2.fixed 8).1 : Int)] 27)) w.heap.size A k c (StmM.fls k r1).1 := World.ownsRow.alloc hO2 _
          have hR3 := hR2.below hba
          have hs3 : w.heap.size ≤ (w2.alloc (.cells #[.int .u64 (((StmM.fls k r1).2.fixed 8).1 : Int)] 27)).heap.size := Nat.le_trans hgw2.size hba.size
          have HY := Lib.hid (And.intro hO3 (And.intro hR3 (And.intro hs3 (hgw2.andThen hga (by intro j hj; cases hj)))))
          clear hR2 hg2 hO2 hgw2 hga hba hO3 hR3 hs3 HX HC ce
          go_wp2_with (at_builtin; refine wpl_app64 _ rfl (.tmp 24) (.tmp 27) rfl w.heap.size A c _ k rfl HY.out.1 (some ⟨w2.heap.size, 0, none⟩) 1 [((StmM.fls k r1).2.fixed 8).1] 1 rfl rfl (row_u1A w2 ((StmM.fls k r1).2.fixed 8).1) (by omega) HY.out.2.2.1 ?_)
          intro A' c' w4 hO4 hg4
          have HZ : Hid (Own64 w4 w.heap.size A' (k + 1) c' (StmM.fls (k + 1) r1).1 ∧ RdIn B 73 w4 g (StmM.fls (k + 1) r1).2 ∧ w.grownBy w4 (some g)) := Lib.hid (by
            have hlt2 : ∀ j, (Value.slice A k c).ownBlock = some j → w.heap.size ≤ j := fun j hj => (World.ownsRow.lt HY.out.1 j hj).1
            refine ⟨hO4, ?_, HY.out.2.2.2.andThen hg4 (fun j hj => .inl (hlt2 j hj))⟩
            cases hob : (Value.slice A k c).ownBlock with
            | none =>
              rw [hob] at hg4
              exact HY.out.2.1.below ⟨hg4.os, hg4.tape, hg4.output, hg4.size, fun i hi => hg4.block i hi (by simp)⟩
            | some b =>
              rw [hob] at hg4
              have := hlt2 b hob
              exact HY.out.2.1.above hg4 (by omega) (by omega))
          clear hO4 hg4 HY
          go_wp2
          go_roundw
          case rel => exact ⟨k + 1, A', c', by go_num, by omega, by omega, rfl, HZ.out.1, HZ.out.2.1, HZ.out.2.2⟩
          case measure => simp [RowKit.intOf]; omega
        · have hd : (((StmM.fls k r1).2.e : Int) == 0) = false := beq_eq_false_iff_ne.2 (by omega)
          have HE : Hid (Enough k n (StmM.fls k r1).2.e) := Lib.hid ⟨hk, .inr (.inr he)⟩
          clear he
          go_wp2
          go_ret
          exact ⟨k, A, c, rfl, HX.out.1, HX.out.2.1, HX.out.2.2, HE⟩
      · have HE : Hid (Enough k n (StmM.fls k r1).2.e) := Lib.hid ⟨hk, .inr (.inl (by omega))⟩
        go_wp2
        go_ret
        exact ⟨k, A, c, rfl, HX.out.1, HX.out.2.1, HX.out.2.2, HE⟩
    · have HE : Hid (Enough k n (StmM.fls k r1).2.e) := Lib.hid ⟨hk, .inl (by omega)⟩
      go_wp2
      go_ret
      exact ⟨k, A, c, rfl, HX.out.1, HX.out.2.1, HX.out.2.2, HE⟩
end Go.Proofs.Ytaadfalklddhcaa
