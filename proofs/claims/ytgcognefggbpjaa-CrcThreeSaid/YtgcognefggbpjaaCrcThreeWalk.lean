/-
  The walk of CrcThree: it returns true and changes nothing that was there.
  Conditions: the three slices of bytes lie in memory as lists; each is at most 2^47 - 4096 bytes.
-/
import Derived.Test.YtgcognefggbpjaaCrcW2
import Derived.Test.YtgcognefggbpjaaCrcM2
import Derived.Test.YtgcognefggbpjaaMem2
import Derived.BigQuiet
import Derived.StillTailTactics
namespace Go.Proofs.Ytgcognefggbpjaa
open Go.RowKit Go.Sort
set_option linter.unusedVariables false
set_option maxRecDepth 100000 in
theorem crcThree_walk (A0 : Option Addr) (c0 : Nat) (l0 : List UInt8) (A1 : Option Addr) (c1 : Nat) (l1 : List UInt8) (A2 : Option Addr) (c2 : Nat) (l2 : List UInt8) (w : World)
    (r0 : Row w A0 (bs l0)) (h0 : l0.length ≤ c0) (m0 : l0.length ≤ 140737488351232) (r1 : Row w A1 (bs l1)) (h1 : l1.length ≤ c1) (m1 : l1.length ≤ 140737488351232) (r2 : Row w A2 (bs l2)) (h2 : l2.length ≤ c2) (m2 : l2.length ≤ 140737488351232) :
    Calls Try.prog 5 #[.slice A0 l0.length c0, .slice A1 l1.length c1, .slice A2 l2.length c2] w fun e w' => e = .returned (.bool true) ∧ Below w.heap.size w w' := by
  go_enter Try.func5, Try.ntmps5
  go_wp2_with (first | (with_reducible refine wpl_min3 _ rfl (.tmp 11) (.tmp 13) (.tmp 15) _ rfl _ _ _ rfl rfl rfl ?_; intro n n0 n1 n2) | (at_make; refine wpl_make _ rfl (.tmp 17) (.tmp 17) rfl n rfl rfl (by omega) ?_))
  go_loopw [9] (fun i wr => ∃ (k : Nat) (x : List UInt8), k ≤ n ∧ i = .int .i64 k ∧ Bytes wr w.heap.size x ∧ x.length = n ∧ Below w.heap.size w wr ∧ ∀ j : Nat, j < k → x[j]? = some ((l0[j]?.getD 0) ^^^ (l1[j]?.getD 0) ^^^ (l2[j]?.getD 0))) (fun i _ => n - (intOf i).toNat)
  case atStart => exact ⟨0, List.replicate n 0, Nat.zero_le _, rfl, Bytes.new w _, by simp, (Below.refl _ _).alloc (Nat.le_refl _) _, fun j hj => absurd hj (by omega)⟩
  case round =>
    obtain ⟨k, x, hk, rfl, hx, hxl, hbel, hall⟩ := hrel
    by_cases hlt : k < n
    · obtain ⟨u0, hu0⟩ : ∃ u, l0[k]? = some u := ⟨_, List.getElem?_eq_getElem (by omega)⟩
      obtain ⟨u1, hu1⟩ : ∃ u, l1[k]? = some u := ⟨_, List.getElem?_eq_getElem (by omega)⟩
      obtain ⟨u2, hu2⟩ : ∃ u, l2[k]? = some u := ⟨_, List.getElem?_eq_getElem (by omega)⟩
      obtain ⟨ux, hux⟩ : ∃ u, x[k]? = some u := ⟨_, List.getElem?_eq_getElem (by omega)⟩
      obtain ⟨b0, o0, rfl, e0⟩ := row_at r0 hu0
      obtain ⟨b1, o1, rfl, e1⟩ := row_at r1 hu1
      obtain ⟨b2, o2, rfl, e2⟩ := row_at r2 hu2
      obtain ⟨_, _, e3, fx⟩ := row_at hx.row hux
      simp only [Option.some.injEq, Addr.mk.injEq, and_true] at e3
      obtain ⟨rfl, rfl⟩ := e3
      rw [Nat.zero_add] at fx
      have f0 := hbel.cell (World.block_lt_of_cell? w _ e0)
      rw [e0] at f0
      have f1 := hbel.cell (World.block_lt_of_cell? w _ e1)
      rw [e1] at f1
      have f2 := hbel.cell (World.block_lt_of_cell? w _ e2)
      rw [e2] at f2
      have fz := hx.frozen k
      have x1 := xor_u8 u0 u1
      obtain ⟨v1, hv1⟩ : ∃ v, v = u0 ^^^ u1 := ⟨_, rfl⟩
      rw [← hv1] at x1
      have x2 := xor_u8 v1 u2
      obtain ⟨v2, hv2⟩ : ∃ v, v = v1 ^^^ u2 := ⟨_, rfl⟩
      rw [← hv2] at x2
      have HX := Lib.hid (And.intro hall (And.intro hxl (And.intro hux (And.intro hu0 (And.intro hu1 (And.intro hu2 (And.intro hv1 hv2)))))))
      clear hall hxl e0 e1 e2 hu0 hu1 hu2 hux hv1 hv2
      go_wp2
      go_region
      go_wp2
      go_roundw
      case rel =>
        refine ⟨k + 1, x.set k v2, by omega, by go_num, (hx.set_ k v2), by rw [List.length_set]; exact HX.out.2.1, (hbel.setCell (Nat.le_refl _) _).drew, fun j hj => ?_⟩
        rw [List.getElem?_set]
        by_cases e : k = j
        · subst e
          rw [if_pos rfl, if_pos (by rw [HX.out.2.1]; exact hlt)]
          obtain ⟨_, _, _, g0, g1, g2, g3, g4⟩ := HX.out
          rw [g0, g1, g2, g4, g3]; rfl
        · rw [if_neg e]; exact HX.out.1 j (by omega)
      case measure => simp [intOf]; omega
    · obtain rfl : k = n := by omega
      have X := Lib.hid (And.intro hxl hall)
      clear hall
      have hx0 : Row wr (some ⟨w.heap.size, 0, none⟩) (bs x) := hx.row
      have hS : (CrcM.sum x) = CrcM.sum (l0.take k) ^^^ CrcM.sum (l1.take k) ^^^ CrcM.sum (l2.take k) := by
        refine CrcM.sum_three _ _ _ _ (by rw [List.length_take, X.out.1]; omega) (by rw [List.length_take, X.out.1]; omega) (by rw [List.length_take, X.out.1]; omega) fun j hj => ?_
        rw [X.out.1] at hj
        rw [X.out.2 j hj, List.getElem?_take, List.getElem?_take, List.getElem?_take, if_pos hj, if_pos hj, if_pos hj]
      have cx := fun (d : Nat) (os : Array Obj) => Calls.regrown_of (sum_at (some ⟨w.heap.size, 0, none⟩) k k x (grow (redrawn wr d) os) (row_regrown hx0 d os) X.out.1.symm (by omega))
      have c0' := fun (d : Nat) (os : Array Obj) => Calls.regrown_of (sum_at A0 c0 k (l0.take k) (grow (redrawn wr d) os) (row_regrown (by rw [bs_take]; exact (r0.take k).below hbel) d os) (by rw [List.length_take]; omega) (by omega))
      have c1' := fun (d : Nat) (os : Array Obj) => Calls.regrown_of (sum_at A1 c1 k (l1.take k) (grow (redrawn wr d) os) (row_regrown (by rw [bs_take]; exact (r1.take k).below hbel) d os) (by rw [List.length_take]; omega) (by omega))
      have c2' := fun (d : Nat) (os : Array Obj) => Calls.regrown_of (sum_at A2 c2 k (l2.take k) (grow (redrawn wr d) os) (row_regrown (by rw [bs_take]; exact (r2.take k).below hbel) d os) (by rw [List.length_take]; omega) (by omega))
      have ck := fun (d : Nat) (os : Array Obj) => Calls.regrown_of (known01_any (grow (redrawn wr d) os))
      have C0 := Lib.hid cx; have C1 := Lib.hid c0'; have C2 := Lib.hid c1'; have C3 := Lib.hid c2'; have C4 := Lib.hid ck
      clear cx c0' c1' c2' ck
      generalize CrcM.sum (l0.take k) = t0 at *
      generalize CrcM.sum (l1.take k) = t1 at *
      generalize CrcM.sum (l2.take k) = t2 at *
      generalize CrcM.sum x = tx at *
      have y1 := CrcM.xor_go t0 t1
      obtain ⟨v1, hv1⟩ : ∃ v, v = t0 ^^^ t1 := ⟨_, rfl⟩
      rw [← hv1] at y1 hS
      have y2 := CrcM.xor_go v1 t2
      rw [← hS] at y2
      clear hv1 hS
      go_wp2
      refine wp_region_quiet_below (by kernel_rfl) (by kernel_rfl) ?_
      repeat (first | go_big_quiet_step (first | exact C0.out _ _ | exact C1.out _ _ | exact C2.out _ _ | exact C3.out _ _ | exact C4.out _ _) | quiet_step (first | exact C0.out _ _ | exact C1.out _ _ | exact C2.out _ _ | exact C3.out _ _ | exact C4.out _ _))
      refine wpQuiet_nil ?_
      intro _ hw'
      obtain ⟨⟨dq, osq⟩, hw''⟩ := hw'
      subst hw''
      go_wp2
      go_ret
      exact ⟨rfl, below_step hbel (below_regrown wr dq osq) (Nat.le_refl _)⟩
end Go.Proofs.Ytgcognefggbpjaa
