/-
  slices.Backward over heads: its function value calls yield with each head, from the last to the first.
  Conditions: the heads lie in memory.
-/
import Derived.Test.YtplknfbdonenmaaSnapW3
import Derived.Test.YtplknfbdonenmaaWanM
import Derived.RangeFuncNested
import Derived.RangeFuncBound
import Derived.RangeFuncCalls
import Derived.RangeFuncLeaves
import Derived.Shelf.Abstract
import Derived.Shelf.RegionOpen
import Derived.WalkKit
import Derived.OwnWalkIn
import Derived.TacticsInMore
import Derived.LoopNIn
import Derived.LoopIn
namespace Go.Proofs.Ytplknfbdonenmaa
open Go.RowKit Go.Shelf
set_option linter.unusedVariables false
set_option linter.unusedSimpArgs false
attribute [local go_sem] Oper.semAt_some
def hedV (h : Hed) : Value := .agg #[.int .u64 (h.txn : Int), .bool h.dead, .bool h.gone]
def encB (n : Nat) (x : Nat × Hed) : Array Value := #[.int .i64 ((x.1 % n : Nat) : Int), hedV x.2]
/-- What a round keeps: what was there ahead of the call, and the box of the heads. -/
def KpW (n0 Bs : Nat) (W W' : World) : Prop := Below n0 W W' ∧ W'.heap[Bs]? = W.heap[Bs]?
theorem KpW.trans {n0 Bs : Nat} {A B C : World} (h : KpW n0 Bs A B) (k : KpW n0 Bs B C) : KpW n0 Bs A C := ⟨h.1.trans k.1, k.2.trans h.2⟩
set_option maxRecDepth 100000 in
set_option maxHeartbeats 4000000 in
theorem backward_stops (n Bs : Nat) (hn : 1 ≤ n) (chain : List Hed) (A : Option Addr) (c : Nat) (w0 w : World) (hrow : Row w0 A (chain.flatMap Hed.cells)) (hl : chain.length ≤ 1000000) (hb0 : Below w0.heap.size w0 w)
    (hB : Blk w Bs 22 #[.slice A chain.length c]) :
    SeqStopsK Fence.wide n Try.prog 18 #[.pointer (some ⟨Bs, 0, none⟩)] (encB chain.length) (KpW w0.heap.size Bs) (fun xs => xs = WanM.upto chain chain.length) (fun _ => True) chain.length w := fun l J Jx W hW hJ hJx hY h0 => by
  have HB := Lib.hid (hB.below hW hB.lt)
  have HW0 := Lib.hid (hb0.trans (hW.mono hb0.size))
  have HROW := Lib.hid hrow
  clear hB hW hb0 hrow
  have c0 := HB.out.cell 0
  simp only [List.getElem?_toArray, List.getElem?_cons_zero] at c0
  refine callsIn_of_wp Try.func18 rfl trivial ?_ rfl
  simp only [Try.ntmps18, List.size_toArray, List.length_cons, List.length_nil, Nat.reduceAdd, Nat.reduceSub, Array.replicate_succ, Array.replicate_zero, List.push_toArray, List.append_toArray, List.nil_append, List.cons_append]
  obtain ⟨N, hN⟩ : ∃ N, chain.length = N := ⟨_, rfl⟩
  have HN := Lib.hid hN
  rw [hN] at c0 hl
  have hw1 : IntKind.i64.wrap ((N : Int) - 1) = (N : Int) - 1 := by rw [IntKind.wrap_i64]; omega
  have hw1' : wrap64 ((N : Int) - 1) = (N : Int) - 1 := by unfold wrap64; omega
  clear hN
  gi_wp2
  gi_loopw [3] (fun i wr => ∃ k m : Nat, k + m = N ∧ i = .int .i64 ((m : Int) - 1) ∧ J (WanM.upto chain k) wr ∧ KpW w0.heap.size Bs W wr) (fun i _ => (intOf i + 1).toNat)
  case atStart => exact ⟨0, N, by omega, rfl, h0, Below.refl _ _, rfl⟩
  case round =>
    obtain ⟨k, m, hkm, rfl, hJs, hKp⟩ := hrel
    have hB1 : Blk wr Bs 22 #[.slice A N c] := by rw [← HN.out]; exact hKp.2.trans HB.out
    have c1 := hB1.cell 0
    simp only [List.getElem?_toArray, List.getElem?_cons_zero] at c1
    clear c0
    cases m with
    | zero =>
      gi_wp2
      go_end0
      obtain rfl : k = N := by omega
      exact ⟨⟨_, rfl⟩, .inl ⟨_, by rw [HN.out], hJs⟩⟩
    | succ j =>
      have hjl : j < chain.length := by rw [HN.out]; omega
      obtain ⟨h, hh⟩ : ∃ h, chain[j]? = some h := ⟨_, List.getElem?_eq_getElem hjl⟩
      obtain ⟨b, o, hA, e1, e2, e3⟩ := row_hed (HROW.out.below (HW0.out.trans hKp.1)) hh
      have hx : chain.length - 1 - k = j := by rw [HN.out]; omega
      have hup : WanM.upto chain (k + 1) = WanM.upto chain k ++ [(j, h)] := by rw [WanM.upto_succ, hx, hh]; rfl
      have HUP := Lib.hid hup
      obtain ⟨fn, tmps, assign, body, hy, hR⟩ := hY _ (j, h) wr hJs (by rw [WanM.upto_length, HN.out]; omega)
      have he : encB chain.length (j, h) = #[.int .i64 (j : Int), .agg #[.int .u64 (h.txn : Int), .bool h.dead, .bool h.gone]] := by unfold encB hedV; rw [Nat.mod_eq_of_lt hjl]
      rw [he] at hy
      rw [show (((j + 1 : Nat) : Int) - 1) = (j : Int) by omega]
      rw [hA] at c1
      have hjN : j < N := by omega
      have hw2 : IntKind.i64.wrap ((j : Int) - 1) = (j : Int) - 1 := by rw [IntKind.wrap_i64]; omega
      have hw2' : wrap64 ((j : Int) - 1) = (j : Int) - 1 := by unfold wrap64; omega
      have HKP := Lib.hid hKp
      clear hKp he hup hx hh hA hB1 hjl
      gi_wp2
      refine hR.mono ?_
      rintro e W3 (⟨rfl, hJ3, hk3⟩ | ⟨rfl, hJx3⟩)
      · have HK3 := Lib.hid (HKP.out.trans hk3)
        clear hk3
        gi_wp2
        go_roundw
        case rel => exact ⟨k + 1, j, by omega, rfl, by rw [HUP.out]; exact hJ3, HK3.out⟩
        case measure => simp [intOf]
      · gi_wp2
        refine bodyPost_ret (results_none rfl _ _ _) rfl ?_
        exact ⟨⟨_, rfl⟩, .inr ⟨_, trivial, hJx3⟩⟩
set_option maxRecDepth 100000 in
theorem backward_any (A : Option Addr) (N c : Nat) (w : World) : Calls Try.prog 11 #[.slice A N c] w fun e w' => e = .returned (.func (.func 18) #[] #[.pointer (some ⟨w.heap.size, 0, none⟩)]) ∧ w' = w.alloc (.cells #[.slice A N c] 22) := by
  go_enter Try.func11, Try.ntmps11
  go_wp2
  go_ret
  exact ⟨rfl, rfl⟩
end Go.Proofs.Ytplknfbdonenmaa
