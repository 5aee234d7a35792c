/-
  What the putting of fixed numbers returns: new memory that holds the bytes and the form behind them.
  Conditions: the bytes lie in memory as lists; their number is bounded.
-/
import Derived.Test.YtaadfalklddhcaaCodeW1
namespace Go.Proofs.Ytaadfalklddhcaa
open Go.RowKit
set_option linter.unusedVariables false

set_option maxRecDepth 100000 in
theorem put16_any (A : Option Addr) (c n size : Nat) (l : List UInt8) (w : World) (hr : Row w A (bs l)) (hc : l.length ≤ 140737488355000) (hn : n < 65536) (hs8 : size ≤ 8) :
    Calls Try.prog 112 #[.slice A l.length c, .int .u16 (n : Int), .int .i64 (size : Int)] w (NewB (l ++ CodeM.fx size n) w) := by
  go_enter Try.func112, Try.ntmps112
  go_wp2_with (first
    | (at_make; refine wpl_make2 _ rfl (.tmp 10) (.tmp 14) rfl l.length (l.length + size) rfl (by go_num) (by omega) (by omega) ?_)
    | (refine wpList_copy_splice rfl (.tmp 16) (.tmp 17) _ _ rfl 5 Try.underlying22 (by kernel_rfl) (some ⟨w.heap.size, 0, none⟩) A l.length (l.length + size) l.length c rfl rfl w.heap.size 0 (bs (List.replicate (l.length + size) 0)) 5 (heap_alloc_new w _) (bs l) (by rw [bs_length]; simp) (fun hp => ⟨rfl, ?_⟩) (by rw [bs_length, bs_length, List.length_replicate]; omega) (bs_one l) w.heap.size w ((Below.refl _ _).alloc (Nat.le_refl _) _) (Nat.le_refl _) ?_))
  · rw [bs_length] at hp
    obtain ⟨b, o, e, hcell⟩ := (hr.alloc (.cells (bs (List.replicate (l.length + size) 0)).toArray 5)).resolve_left (by intro h; rw [← bs_length, h] at hp; cases hp)
    exact ⟨_, e, fun j v hj => by rw [Addr.add_lit]; exact hcell j v hj⟩
  intro w1 hw1 hb1
  have h1 : Own w1 w.heap.size (some ⟨w.heap.size, 0, none⟩) (l.length + size) l := copied w1 w.heap.size l size hw1.out (by unfold maxLen; omega)
  clear hw1
  rw [bs_length]
  go_wp2
  go_loopw [7, 20] (fun b i wr => ∃ (j : Nat) (A2 : Option Addr) (c2 : Nat), j ≤ size ∧ i = .int .i64 j ∧ b = .slice A2 (l.length + j) c2 ∧ Own wr w.heap.size A2 c2 (l ++ CodeM.fx j n) ∧ Below w.heap.size w wr) (fun _ i _ => size - (intOf i).toNat)
  case atStart => exact ⟨0, _, _, by omega, rfl, rfl, by simpa [CodeM.fx] using h1, hb1⟩
  case round =>
    obtain ⟨j, A2, c2, hj, rfl, rfl, hx, hbel⟩ := hrel
    have hs := hbel.size
    have hlen : (l ++ CodeM.fx j n).length = l.length + j := by rw [List.length_append, CodeM.fx_length]
    have HL := Lib.hid hlen
    clear hlen
    by_cases hlt : j < size
    · have hfx := Lib.hid (CodeM.fx_succ j n)
      have hsh := CodeM.shr_byte n j
      obtain ⟨x, hx2⟩ : ∃ x, CodeM.byte (n / 256 ^ j % 256) = x := ⟨_, rfl⟩
      rw [hx2] at hsh
      have HX2 := Lib.hid hx2
      clear hx2
      go_wp2_with (at_builtin; refine wpl_app' _ rfl (.tmp 23) (.tmp 30) rfl w.heap.size A2 c2 (l ++ CodeM.fx j n) (l.length + j) rfl HL.out (hx.alloc _) (some ⟨wr.heap.size, 0, none⟩) 1 [x] 1 rfl rfl (row_one wr _ _ rfl) ?_ ?_ ?_)
      · simp; omega
      · simp; omega
      intro A3 c3 w3 h3 hg3 _
      have hb3 : Below w.heap.size w w3 := (hx.alloc _).grown_below (by rw [HL.out]) hg3 (hbel.alloc hs _) (Nat.le_refl _) (by simp; omega)
      go_wp2
      go_roundw
      case rel => exact ⟨j + 1, A3, c3, by omega, by go_num, rfl, by rw [hfx.out, HX2.out]; exact h3, hb3⟩
      case measure => simp [intOf]; omega
    · obtain rfl : j = size := by omega
      go_wp2
      go_ret
      exact ⟨A2, _, c2, rfl, Lib.hid HL.out, hx, hbel⟩

set_option maxRecDepth 100000 in
theorem Put16_any (A : Option Addr) (c n : Nat) (l : List UInt8) (w : World) (hr : Row w A (bs l)) (hc : l.length ≤ 140737488355000) (hn : n < 65536) :
    Calls Try.prog 108 #[.slice A l.length c, .int .u16 (n : Int)] w (NewB (l ++ CodeM.fx 2 n) w) := by
  go_enter Try.func108, Try.ntmps108
  go_wp2_with fail
  refine (put16_any A c n 2 l _ hr hc hn (by omega)).mono ?_
  rintro e w1 ⟨A1, n1, c1, rfl, hn1, h1, b1⟩
  go_wp2
  go_ret
  exact ⟨A1, n1, c1, rfl, hn1, h1, b1⟩

set_option maxRecDepth 100000 in
theorem put64_any (A : Option Addr) (c n size : Nat) (l : List UInt8) (w : World) (hr : Row w A (bs l)) (hc : l.length ≤ 140737488355000) (hn : n < 18446744073709551616) (hs8 : size ≤ 8) :
    Calls Try.prog 111 #[.slice A l.length c, .int .u64 (n : Int), .int .i64 (size : Int)] w (NewB (l ++ CodeM.fx size n) w) := by
  go_enter Try.func111, Try.ntmps111
  go_wp2_with (first
    | (at_make; refine wpl_make2 _ rfl (.tmp 10) (.tmp 14) rfl l.length (l.length + size) rfl (by go_num) (by omega) (by omega) ?_)
    | (refine wpList_copy_splice rfl (.tmp 16) (.tmp 17) _ _ rfl 5 Try.underlying22 (by kernel_rfl) (some ⟨w.heap.size, 0, none⟩) A l.length (l.length + size) l.length c rfl rfl w.heap.size 0 (bs (List.replicate (l.length + size) 0)) 5 (heap_alloc_new w _) (bs l) (by rw [bs_length]; simp) (fun hp => ⟨rfl, ?_⟩) (by rw [bs_length, bs_length, List.length_replicate]; omega) (bs_one l) w.heap.size w ((Below.refl _ _).alloc (Nat.le_refl _) _) (Nat.le_refl _) ?_))
  · rw [bs_length] at hp
    obtain ⟨b, o, e, hcell⟩ := (hr.alloc (.cells (bs (List.replicate (l.length + size) 0)).toArray 5)).resolve_left (by intro h; rw [← bs_length, h] at hp; cases hp)
    exact ⟨_, e, fun j v hj => by rw [Addr.add_lit]; exact hcell j v hj⟩
  intro w1 hw1 hb1
  have h1 : Own w1 w.heap.size (some ⟨w.heap.size, 0, none⟩) (l.length + size) l := copied w1 w.heap.size l size hw1.out (by unfold maxLen; omega)
  clear hw1
  rw [bs_length]
  go_wp2
  go_loopw [7, 20] (fun b i wr => ∃ (j : Nat) (A2 : Option Addr) (c2 : Nat), j ≤ size ∧ i = .int .i64 j ∧ b = .slice A2 (l.length + j) c2 ∧ Own wr w.heap.size A2 c2 (l ++ CodeM.fx j n) ∧ Below w.heap.size w wr) (fun _ i _ => size - (intOf i).toNat)
  case atStart => exact ⟨0, _, _, by omega, rfl, rfl, by simpa [CodeM.fx] using h1, hb1⟩
  case round =>
    obtain ⟨j, A2, c2, hj, rfl, rfl, hx, hbel⟩ := hrel
    have hs := hbel.size
    have hlen : (l ++ CodeM.fx j n).length = l.length + j := by rw [List.length_append, CodeM.fx_length]
    have HL := Lib.hid hlen
    clear hlen
    by_cases hlt : j < size
    · have hfx := Lib.hid (CodeM.fx_succ j n)
      have hsh := CodeM.shr_byte n j
      obtain ⟨x, hx2⟩ : ∃ x, CodeM.byte (n / 256 ^ j % 256) = x := ⟨_, rfl⟩
      rw [hx2] at hsh
      have HX2 := Lib.hid hx2
      clear hx2
      go_wp2_with (at_builtin; refine wpl_app' _ rfl (.tmp 23) (.tmp 29) rfl w.heap.size A2 c2 (l ++ CodeM.fx j n) (l.length + j) rfl HL.out (hx.alloc _) (some ⟨wr.heap.size, 0, none⟩) 1 [x] 1 rfl rfl (row_one wr _ _ rfl) ?_ ?_ ?_)
      · simp; omega
      · simp; omega
      intro A3 c3 w3 h3 hg3 _
      have hb3 : Below w.heap.size w w3 := (hx.alloc _).grown_below (by rw [HL.out]) hg3 (hbel.alloc hs _) (Nat.le_refl _) (by simp; omega)
      go_wp2
      go_roundw
      case rel => exact ⟨j + 1, A3, c3, by omega, by go_num, rfl, by rw [hfx.out, HX2.out]; exact h3, hb3⟩
      case measure => simp [intOf]; omega
    · obtain rfl : j = size := by omega
      go_wp2
      go_ret
      exact ⟨A2, _, c2, rfl, Lib.hid HL.out, hx, hbel⟩

set_option maxRecDepth 100000 in
theorem Put64_any (A : Option Addr) (c n : Nat) (l : List UInt8) (w : World) (hr : Row w A (bs l)) (hc : l.length ≤ 140737488355000) (hn : n < 18446744073709551616) :
    Calls Try.prog 101 #[.slice A l.length c, .int .u64 (n : Int)] w (NewB (l ++ CodeM.fx 8 n) w) := by
  go_enter Try.func101, Try.ntmps101
  go_wp2_with fail
  refine (put64_any A c n 8 l _ hr hc hn (by omega)).mono ?_
  rintro e w1 ⟨A1, n1, c1, rfl, hn1, h1, b1⟩
  go_wp2
  go_ret
  exact ⟨A1, n1, c1, rfl, hn1, h1, b1⟩

set_option maxRecDepth 100000 in
theorem PutText_any (A A2 : Option Addr) (c c2 : Nat) (l s : List UInt8) (w : World) (hr : Row w A (bs l)) (hr2 : Row w A2 (bs s)) (hc : l.length + s.length ≤ 140737488354000) :
    Calls Try.prog 106 #[.slice A l.length c, .slice A2 s.length c2] w (NewB (l ++ CodeM.tx s) w) := by
  go_enter Try.func106, Try.ntmps106
  go_wp2_with fail
  refine (putuv_any A c s.length l _ hr (by omega) (by omega)).mono ?_
  rintro e w1 ⟨A1, n1, c1, rfl, hn1, h1, b1⟩
  have hu := CodeM.uv_length s.length
  have hn1' := hn1.out
  rw [List.length_append] at hn1'
  go_wp2_with (at_builtin; refine wpl_app' _ rfl (.tmp 9) (.tmp 10) rfl w.heap.size A1 c1 (l ++ CodeM.uv s.length) n1 rfl hn1.out h1 A2 c2 s s.length rfl rfl (hr2.below b1) ?_ ?_ ?_)
  · omega
  · exact b1.size
  intro A3 c3 w3 h3 hg3 _
  have hb3 : Below w.heap.size w w3 := h1.grown_below (by rw [hn1.out]) hg3 b1 (Nat.le_refl _) b1.size
  clear hn1'
  go_wp2
  go_ret
  exact ⟨A3, _, c3, rfl, Lib.hid (by unfold CodeM.tx; rw [← List.append_assoc, List.length_append, hn1.out]), h3, hb3⟩
end Go.Proofs.Ytaadfalklddhcaa
