/-
  What the putting of a fixed number of four bytes returns, and a copy of bytes: new memory.
  Conditions: the bytes lie in memory as lists; their number is bounded.
-/
import Derived.Test.YtgcognefggbpjaaMem2
import Derived.Test.YtgcognefggbpjaaCodeM
import Derived.Lib.Hide
import Derived.Lib.BufferOwn
import Derived.Laws.BitsAllLaws
namespace Go.Proofs.Ytgcognefggbpjaa
open Go.RowKit
set_option linter.unusedVariables false
/-- A slice of bytes in new memory. -/
def NewB (l : List UInt8) (w : World) (e : Ending) (w' : World) : Prop := ∃ A n c, e = .returned (.slice A n c) ∧ Hid (l.length = n) ∧ Own w' w.heap.size A c l ∧ Below w.heap.size w w'
theorem row_none {w : World} {l : List UInt8} (h : Row w none (bs l)) : l = [] := by
  rcases h with h | ⟨b, o, e, _⟩
  · exact List.map_eq_nil_iff.1 h
  · cases e
set_option maxRecDepth 100000 in
theorem clone_any (A : Option Addr) (c : Nat) (l : List UInt8) (w : World) (hr : Row w A (bs l)) (hc : l.length ≤ 140737488355328) :
    Calls Try.prog 57 #[.slice A l.length c] w (NewB l w) := by
  have hq := fun (w : World) (a : Option Addr) (l c : Nat) => Lib.run_eql_slice_nil (P := Try.prog) w 22 5 a l c 0 0 Try.underlying22
  cases A with
  | none =>
    obtain rfl := row_none hr
    go_enter Try.func57, Try.ntmps57
    go_wp2
    go_ret
    exact ⟨none, 0, 0, rfl, Lib.hid rfl, Own.nil_ _ _, Below.refl _ _⟩
  | some a =>
    go_enter Try.func57, Try.ntmps57
    go_wp2_with (at_builtin; refine wpl_app _ rfl (.tmp 5) (.tmp 6) rfl w.heap.size (some ⟨w.heap.size, 0, none⟩) 0 [] rfl (Own.made w #[] 0 (Nat.le_refl _) (by unfold maxLen; omega) rfl) (some a) c l rfl (hr.alloc _) ?_ ?_ ?_)
    · simp; omega
    · simp
    intro A1 c1 w1 h1 hg1 _
    have hb1 : Below w.heap.size w w1 := ((Below.refl w.heap.size w).alloc (Nat.le_refl _) (.cells #[] 5)).grown hg1 (by simp) (by intro k hk; simp [Value.ownBlock] at hk; omega)
    go_wp2
    go_ret
    exact ⟨A1, _, c1, rfl, Lib.hid rfl, h1, hb1⟩
set_option maxRecDepth 100000 in
theorem put32_any (A : Option Addr) (c n size : Nat) (l : List UInt8) (w : World) (hr : Row w A (bs l)) (hc : l.length ≤ 140737488355000) (hn : n < 4294967296) (hs8 : size ≤ 8) :
    Calls Try.prog 63 #[.slice A l.length c, .int .u32 (n : Int), .int .i64 (size : Int)] w (NewB (l ++ CodeM.fx size n) w) := by
  go_enter Try.func63, Try.ntmps63
  go_wp2_with (first
    | (at_make; refine wpl_make2 _ rfl (.tmp 10) (.tmp 14) rfl l.length (l.length + size) rfl (by go_num) (by omega) (by omega) ?_)
    | (refine wpList_copy_splice rfl (.tmp 16) (.tmp 17) _ _ rfl 5 Try.underlying22 (by kernel_rfl) (some ⟨w.heap.size, 0, none⟩) A l.length (l.length + size) l.length c rfl rfl w.heap.size 0 (bs (List.replicate (l.length + size) 0)) 5 (heap_alloc_new w _) (bs l) (by rw [bs_length]; simp) (fun hp => ⟨rfl, ?_⟩) (by rw [bs_length, bs_length, List.length_replicate]; omega) (bs_one l) w.heap.size w ((Below.refl _ _).alloc (Nat.le_refl _) _) (Nat.le_refl _) ?_))
  · rw [bs_length] at hp
    obtain ⟨b, o, e, hcell⟩ := (hr.alloc (.cells (bs (List.replicate (l.length + size) 0)).toArray 5)).resolve_left (by intro h; rw [← bs_length, h] at hp; cases hp)
    exact ⟨_, e, fun j v hj => by rw [Addr.add_lit]; exact hcell j v hj⟩
  intro w1 hw1 hb1
  have h1 : Own w1 w.heap.size (some ⟨w.heap.size, 0, none⟩) (l.length + size) l := copied w1 w.heap.size l size hw1.out (by unfold maxLen; omega)
  clear hw1
  rw [bs_length]
  go_wp2
  go_loopw [7, 20] (fun b i wr => ∃ (j : Nat) (A2 : Option Addr) (c2 : Nat), j ≤ size ∧ i = .int .i64 j ∧ b = .slice A2 (l.length + j) c2 ∧ Own wr w.heap.size A2 c2 (l ++ CodeM.fx j n) ∧ Below w.heap.size w wr) (fun _ i _ => size - (intOf i).toNat)
  case atStart => exact ⟨0, _, _, by omega, rfl, rfl, by simpa [CodeM.fx] using h1, hb1⟩
  case round =>
    obtain ⟨j, A2, c2, hj, rfl, rfl, hx, hbel⟩ := hrel
    have hs := hbel.size
    have hlen : (l ++ CodeM.fx j n).length = l.length + j := by rw [List.length_append, CodeM.fx_length]
    have HL := Lib.hid hlen
    clear hlen
    by_cases hlt : j < size
    · have hfx := Lib.hid (CodeM.fx_succ j n)
      have hsh := CodeM.shr_byte n j
      obtain ⟨x, hx2⟩ : ∃ x, CodeM.byte (n / 256 ^ j % 256) = x := ⟨_, rfl⟩
      rw [hx2] at hsh
      have HX2 := Lib.hid hx2
      clear hx2
      go_wp2_with (at_builtin; refine wpl_app' _ rfl (.tmp 23) (.tmp 30) rfl w.heap.size A2 c2 (l ++ CodeM.fx j n) (l.length + j) rfl HL.out (hx.alloc _) (some ⟨wr.heap.size, 0, none⟩) 1 [x] 1 rfl rfl (row_one wr _ _ rfl) ?_ ?_ ?_)
      · simp; omega
      · simp; omega
      intro A3 c3 w3 h3 hg3 _
      have hb3 : Below w.heap.size w w3 := (hx.alloc _).grown_below (by rw [HL.out]) hg3 (hbel.alloc hs _) (Nat.le_refl _) (by simp; omega)
      go_wp2
      go_roundw
      case rel => exact ⟨j + 1, A3, c3, by omega, by go_num, rfl, by rw [hfx.out, HX2.out]; exact h3, hb3⟩
      case measure => simp [intOf]; omega
    · obtain rfl : j = size := by omega
      go_wp2
      go_ret
      exact ⟨A2, _, c2, rfl, Lib.hid HL.out, hx, hbel⟩
set_option maxRecDepth 100000 in
theorem Put32_any (A : Option Addr) (c n : Nat) (l : List UInt8) (w : World) (hr : Row w A (bs l)) (hc : l.length ≤ 140737488355000) (hn : n < 4294967296) :
    Calls Try.prog 54 #[.slice A l.length c, .int .u32 (n : Int)] w (NewB (l ++ CodeM.fx 4 n) w) := by
  go_enter Try.func54, Try.ntmps54
  go_wp2_with fail
  refine (put32_any A c n 4 l _ hr hc hn (by omega)).mono ?_
  rintro e w1 ⟨A1, n1, c1, rfl, hn1, h1, b1⟩
  go_wp2
  go_ret
  exact ⟨A1, n1, c1, rfl, hn1, h1, b1⟩
set_option maxRecDepth 100000 in
theorem reffixed_any (n size : Nat) (w : World) (hn : n < 18446744073709551616) (hs8 : size ≤ 8) :
    Calls Try.prog 55 #[.int .u64 (n : Int), .int .i64 (size : Int)] w (NewB (CodeM.fx size n) w) := by
  go_enter Try.func55, Try.ntmps55
  go_wp2
  go_loopw [5, 6] (fun b i wr => ∃ (j : Nat) (A2 : Option Addr) (c2 : Nat), j ≤ size ∧ i = .int .i64 j ∧ b = .slice A2 j c2 ∧ Own wr w.heap.size A2 c2 (CodeM.fx j n) ∧ Below w.heap.size w wr) (fun _ i _ => size - (intOf i).toNat)
  case atStart => exact ⟨0, none, 0, by omega, rfl, rfl, Own.nil_ _ _, Below.refl _ _⟩
  case round =>
    obtain ⟨j, A2, c2, hj, rfl, rfl, hx, hbel⟩ := hrel
    have hs := hbel.size
    have HL := Lib.hid (CodeM.fx_length j n)
    by_cases hlt : j < size
    · have hfx := Lib.hid (CodeM.fx_succ j n)
      have hsh := CodeM.shr_byte n j
      obtain ⟨x, hx2⟩ : ∃ x, CodeM.byte (n / 256 ^ j % 256) = x := ⟨_, rfl⟩
      rw [hx2] at hsh
      have HX2 := Lib.hid hx2
      clear hx2
      go_wp2_with (at_builtin; refine wpl_app' _ rfl (.tmp 12) (.tmp 19) rfl w.heap.size A2 c2 (CodeM.fx j n) j rfl HL.out (hx.alloc _) (some ⟨wr.heap.size, 0, none⟩) 1 [x] 1 rfl rfl (row_one wr _ _ rfl) ?_ ?_ ?_)
      · omega
      · simp; omega
      intro A3 c3 w3 h3 hg3 _
      have hb3 : Below w.heap.size w w3 := (hx.alloc _).grown_below (by rw [HL.out]) hg3 (hbel.alloc hs _) (Nat.le_refl _) (by simp; omega)
      go_wp2
      go_roundw
      case rel => exact ⟨j + 1, A3, c3, by omega, by go_num, rfl, by rw [hfx.out, HX2.out]; exact h3, hb3⟩
      case measure => simp [intOf]; omega
    · obtain rfl : j = size := by omega
      go_wp2
      go_ret
      exact ⟨A2, _, c2, rfl, Lib.hid HL.out, hx, hbel⟩
end Go.Proofs.Ytgcognefggbpjaa
