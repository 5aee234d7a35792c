/-
  What crc.Join and the document's Join return.
  Conditions: none.
-/
import Derived.Test.YtgcognefggbpjaaCrcW1
import Derived.Test.YtgcognefggbpjaaMem2
import Derived.Test.YtgcognefggbpjaaCrcM4
import Derived.Laws.Tables
namespace Go.Proofs.Ytgcognefggbpjaa
open Go.RowKit
set_option linter.unusedVariables false

/-- A whole row stored. -/
theorem wpl_store_row {P : Program} (w : World) {ops : Array Oper} {rest : List Oper} {o : Oper} {a : Act} {Q : Exit → Act → World → Prop} (hgd : o.guard = none) (ty : TypeId) (p v : Operand)
    (ho : o.op = .store ty p v) (hd : o.dst = none) (g : Nat) (hp : a.eval p = .pointer (some ⟨g, 0, none⟩)) (c' : Array Value) (hv : a.eval v = .agg c') (t : TypeId) (c : Array Value) (hg : Blk w g t c)
    (hi : (P.info? ty).map (·.size) = some c'.size) (hc : c.size = c'.size) (h1 : c'.all (·.oneCell') = true)
    (h : ∀ w', Blk w' g t c' → w.grownBy w' (some g) → wpList P ops Q rest a w') : wpList P ops Q (o :: rest) a w := by
  refine wpList_plain hgd fun K hK => ?_
  have hr := run_storeVar_row (P := P) w g t ty c c' hg hi hc h1
  unfold Oper.wp execOp
  simp only [ho, hp, hv, Instr.storeAt, Instr.sureAddr, Sem.run_bind, Sem.run_pure, Result.andThen_ok, hr]
  have := hK a _ (h (w.setRow g c') (setRow_heap w g c c' t (0, 0) hg) ⟨rfl, rfl, rfl, by simp, fun k hk hne => setRow_other w g k c' (fun e => hne (by rw [e]))⟩)
  simpa [Oper.upon, Act.put, hd] using this
theorem of_any (x : BitVec 32) (n g : Nat) (cs : Array Value) (w : World) (hM : CrcM.Mat cs n) (hB : Blk w g 78 cs) :
    Calls Try.prog 45 #[.pointer (some ⟨g, 0, none⟩), .int .u32 (x.toNat : Int)] w fun e w' => e = .returned (.int .u32 ((CrcM.stp n x).toNat : Int)) ∧ w = w' := by
  have hx := CrcM.toNat_lt x
  go_enter Try.func45, Try.ntmps45
  go_wp2
  go_loop [1, 5, 6] (fun xv y i => ∃ k : Nat, k ≤ 32 ∧ i = .int .i64 k ∧ xv = .int .u32 ((CrcM.sh x k).toNat : Int) ∧ y = .int .u32 ((CrcM.stp n (CrcM.low x k)).toNat : Int)) (fun _ _ i => 32 - (intOf i).toNat)
  case atStart => exact ⟨0, by omega, rfl, by rw [CrcM.sh_zero], by rw [CrcM.low_zero, CrcM.stp_zero]; rfl⟩
  case round =>
    obtain ⟨k, hk, rfl, rfl, rfl⟩ := hrel
    have hy := CrcM.toNat_lt (CrcM.stp n (CrcM.low x k))
    have hs := CrcM.toNat_lt (CrcM.sh x k)
    by_cases hz : (CrcM.sh x k).toNat = 0
    · have ht : (((CrcM.sh x k).toNat : Int) != 0) = false := by rw [bne_eq_false_iff_eq]; omega
      have HL := Lib.hid (CrcM.low_all x k hz)
      clear hz
      go_wp2
      go_ret
      exact ⟨ret_int (by rw [HL.out]), rfl⟩
    · have hlt := CrcM.sh_ne x k hz
      have ht : (((CrcM.sh x k).toNat : Int) != 0) = true := by rw [bne_iff_ne]; omega
      have hc := hB.cell k
      rw [hM.2 k hlt] at hc
      have hn := CrcM.sh_next x k
      have HA := Lib.hid (CrcM.acc_go x n k hlt)
      clear hz
      go_wp2
      go_round
      case rel => exact ⟨k + 1, by omega, by go_num, rfl, by rw [HA.out]⟩
      case measure => simp [intOf]; omega
set_option maxRecDepth 100000 in
theorem twice_any (n g : Nat) (cs : Array Value) (w : World) (hM : CrcM.Mat cs n) (hB : Blk w g 78 cs) :
    Calls Try.prog 46 #[.pointer (some ⟨g, 0, none⟩)] w fun e w' => ∃ cs' : Array Value, e = .returned (.agg cs') ∧ CrcM.Mat cs' (n + n) ∧ Below w.heap.size w w' := by
  have hgl := hB.lt
  go_enter Try.func46, Try.ntmps46
  go_wp2
  go_loopw [4, 5] (fun _ i wr => ∃ (k : Nat) (C0 C1 : Array Value), k ≤ 32 ∧ i = .int .i64 k ∧ C0.size = 32 ∧ wr = (w.alloc (.cells C0 78)).alloc (.cells C1 78) ∧ C1.size = 32 ∧
      ∀ j : Nat, j < k → C1[j]? = some (.int .u32 ((CrcM.stp (n + n) (CrcM.w32 (2 ^ j))).toNat : Int))) (fun _ i _ => 32 - (intOf i).toNat)
  case atStart => exact ⟨0, _, _, by omega, rfl, rfl, rfl, rfl, fun j hj => absurd hj (by omega)⟩
  case round =>
    obtain ⟨k, C0, C1, hk, rfl, hz0, rfl, hz1, hall⟩ := hrel
    by_cases hlt : k < 32
    · obtain ⟨u, hu⟩ : ∃ u, C1[k]? = some u := ⟨_, Array.getElem?_eq_getElem (by omega)⟩
      have hcell : ((w.alloc (.cells C0 78)).alloc (.cells C1 78)).cell? ⟨w.heap.size + 1, k, none⟩ = some u := by
        have := (Blk.new (w.alloc (.cells C0 78)) 78 C1).cell k
        rw [hu] at this
        simpa using this
      have hm := hB.cell k
      rw [hM.2 k hlt] at hm
      have hm2 := World.cell?_alloc_lt (w.alloc (.cells C0 78)) (.cells C1 78) ⟨g, k, none⟩ (by simp; omega)
      rw [World.cell?_alloc_lt w (.cells C0 78) ⟨g, k, none⟩ hgl, hm] at hm2
      have X := Lib.hid (And.intro hz0 (And.intro hz1 (And.intro hall hu)))
      clear hz0 hz1 hall hu hm
      go_wp2_with (go_at_call 45; refine (of_any _ n g cs _ hM ((hB.alloc _).alloc _)).mono ?_; rintro e w' ⟨rfl, rfl⟩)
      go_roundw
      case rel =>
        refine ⟨k + 1, C0, _, by omega, by go_num, X.out.1, rfl, by rw [Array.size_setIfInBounds]; exact X.out.2.1, fun j hj => ?_⟩
        rw [Array.getElem?_setIfInBounds]
        by_cases e : k = j
        · subst e; rw [if_pos rfl, if_pos (by rw [X.out.2.1]; exact hlt), CrcM.stp_add]
        · rw [if_neg e]; exact X.out.2.2.1 j (by omega)
      case measure => simp [intOf]; omega
    · obtain rfl : k = 32 := by omega
      have hMat : CrcM.Mat C1 (n + n) := ⟨hz1, hall⟩
      have X := Lib.hid (And.intro hz0 hMat)
      clear hz0 hz1 hall
      have i78 : (Try.prog.info? 78).map (·.size) = some 32 := by kernel_rfl
      have iC : (Try.prog.info? 78).map (·.size) = some C1.size := by rw [X.out.2.1]; exact i78
      have hC : C0.size = C1.size := by rw [X.out.1, X.out.2.1]
      have b1 : Blk ((w.alloc (.cells C0 78)).alloc (.cells C1 78)) (w.heap.size + 1) 78 C1 := by
        have := Blk.new (w.alloc (.cells C0 78)) 78 C1
        simpa using this
      have b0 : Blk ((w.alloc (.cells C0 78)).alloc (.cells C1 78)) w.heap.size 78 C0 := (Blk.new w _ _).alloc _
      have H1 := Lib.hid b1; have H0 := Lib.hid b0; have HI := Lib.hid iC; have HC := Lib.hid hC
      clear b1 b0 iC i78 hC
      go_wp2_with (first
        | (refine wpList_load_row rfl 78 (.tmp 3) rfl (w.heap.size + 1) rfl 78 C1 (0, 0) _ H1.out Try.underlying78 rfl HI.out ?_)
        | (refine wpl_store_row _ rfl 78 (.tmp 2) (.tmp 18) rfl rfl w.heap.size rfl C1 rfl 78 C0 H0.out HI.out HC.out X.out.2.one ?_; intro w2 hw2 hg2))
      refine bodyPost_ret (results_cell_row rfl _ _ w.heap.size 78 C1 (0, 0) _ rfl hw2 Try.underlying78 rfl HI.out) rfl ?_
      refine ⟨C1, rfl, X.out.2, ?_⟩
      exact (((Below.refl w.heap.size w).alloc (Nat.le_refl _) _).alloc (by simp) _).grown hg2 (by simp; omega) (by intro k hk; injection hk with hk; omega)
theorem refjoin_any (a b : BitVec 32) (n : Int) (hn : n ≤ 9223372036854775807) (w : World) :
    Calls Try.prog 23 #[.int .u32 (a.toNat : Int), .int .u32 (b.toNat : Int), .int .i64 n] w fun e w' => e = .returned (.int .u32 ((CrcM.xr (CrcM.stp (8 * n.toNat) a) b).toNat : Int)) ∧ w = w' := by
  have ha := CrcM.toNat_lt a
  go_enter Try.func23, Try.ntmps23
  go_wp2
  go_loop [0, 7] (fun v i => ∃ k : Nat, k ≤ n.toNat ∧ i = .int .i64 k ∧ v = .int .u32 ((CrcM.stp (8 * k) a).toNat : Int)) (fun _ i => n.toNat - (intOf i).toNat)
  case atStart => exact ⟨0, by omega, rfl, rfl⟩
  case round =>
    obtain ⟨k, hk, rfl, rfl⟩ := hrel
    have hy := CrcM.toNat_lt (CrcM.stp (8 * k) a)
    by_cases hlt : (k : Int) < n
    · go_wp2_with (go_at_call 44; refine (step_any _ _).mono ?_; rintro e w' ⟨rfl, rfl⟩)
      go_round
      case rel => exact ⟨k + 1, by omega, by go_num, by rw [← CrcM.stp_add, show 8 + 8 * k = 8 * (k + 1) by omega]⟩
      case measure => simp [intOf]; omega
    · have hx := CrcM.xr_go (CrcM.stp (8 * k) a) b
      obtain rfl : k = n.toNat := by omega
      go_wp2
      go_ret
      exact ⟨rfl, rfl⟩
theorem half_any' (x : BitVec 32) (v : Int) (hv : v = (x.toNat : Int)) (w : World) :
    Calls Try.prog 42 #[.int .u32 v] w fun e w' => e = .returned (.int .u32 ((CrcM.stp 4 x).toNat : Int)) ∧ w = w' := by
  subst hv; exact half_any x w
set_option maxRecDepth 100000 in
set_option maxHeartbeats 1000000 in
theorem join_any (a b : BitVec 32) (n : Int) (hn0 : -9223372036854775808 ≤ n) (hn : n ≤ 9223372036854775807) (w : World) :
    Calls Try.prog 22 #[.int .u32 (a.toNat : Int), .int .u32 (b.toNat : Int), .int .i64 n] w fun e w' => e = .returned (.int .u32 ((CrcM.xr (CrcM.stp (8 * n.toNat) a) b).toNat : Int)) ∧ Below w.heap.size w w' := by
  have ha := CrcM.toNat_lt a
  go_enter Try.func22, Try.ntmps22
  go_wp2
  go_loopw [8, 9] (fun _ i wr => ∃ (k : Nat) (cs : Array Value), k ≤ 32 ∧ i = .int .i64 k ∧ wr = w.alloc (.cells cs 78) ∧ cs.size = 32 ∧ ∀ j : Nat, j < k → cs[j]? = some (.int .u32 ((CrcM.stp 8 (CrcM.w32 (2 ^ j))).toNat : Int))) (fun _ i _ => 32 - (intOf i).toNat)
  case atStart => exact ⟨0, _, by omega, rfl, rfl, rfl, fun j hj => absurd hj (by omega)⟩
  case round =>
    obtain ⟨k, cs, hk, rfl, rfl, hsz, hcs⟩ := hrel
    by_cases hlt : k < 32
    · obtain ⟨u, hu⟩ : ∃ u, cs[k]? = some u := ⟨_, Array.getElem?_eq_getElem (by omega)⟩
      have hcell : (w.alloc (.cells cs 78)).cell? ⟨w.heap.size, k, none⟩ = some u := by
        rw [(Blk.new w 78 cs).cell k, hu]
      have X := Lib.hid (And.intro hsz hcs)
      have hp := CrcM.w32_pow k hlt
      clear hsz hcs hu
      go_wp2_with (go_at_call 42; refine (half_any _ _).mono ?_; rintro e w' ⟨rfl, rfl⟩)
      go_roundw
      case rel =>
        refine ⟨k + 1, _, by omega, by go_num, rfl, by rw [Array.size_setIfInBounds]; exact X.out.1, fun j hj => ?_⟩
        rw [Array.getElem?_setIfInBounds]
        by_cases e : k = j
        · subst e; rw [if_pos rfl, if_pos (by rw [X.out.1]; exact hlt), CrcM.two_nibbles]
        · rw [if_neg e]; exact X.out.2 j (by omega)
      case measure => simp [intOf]; omega
    · obtain rfl : k = 32 := by omega
      have hM : CrcM.Mat cs 8 := ⟨hsz, hcs⟩
      clear hsz hcs
      rw [show ((32 : Nat) : Int) = 32 from rfl]
      go_wp2
      go_loopw [0, 2] (fun v m wr => ∃ (q : Int) (e : Nat) (y : BitVec 32) (C : Array Value), (-9223372036854775808 ≤ q ∧ q ≤ 9223372036854775807) ∧ m = .int .i64 q ∧ v = .int .u32 (y.toNat : Int) ∧ CrcM.stp (e * q.toNat) y = CrcM.stp (8 * n.toNat) a ∧ Blk wr w.heap.size 78 C ∧ CrcM.Mat C e ∧ Below w.heap.size w wr) (fun _ m _ => (intOf m).toNat)
      case atStart => exact ⟨n, 8, a, cs, ⟨hn0, hn⟩, rfl, rfl, rfl, Blk.new w _ _, hM, (Below.refl _ _).alloc (Nat.le_refl _) _⟩
      case round =>
        obtain ⟨q, e, y, C, ⟨hq0, hq⟩, rfl, rfl, hy, hB, hC, hbel⟩ := hrel
        have hyl := CrcM.toNat_lt y
        have HY := Lib.hid hy
        clear hy
        have i78 : (Try.prog.info? 78).map (·.size) = some 32 := by kernel_rfl
        have HI := Lib.hid i78
        clear i78
        by_cases hz : 0 < q
        · obtain ⟨p, rfl⟩ : ∃ p : Nat, q = (p : Int) := ⟨q.toNat, by omega⟩
          have hb := CrcM.i64_and_one p (by omega)
          rcases Nat.mod_two_eq_zero_or_one p with h2 | h2
          · rw [if_neg (by omega)] at hb
            have H2 := Lib.hid h2
            clear h2
            go_wp2_with (first
              | (go_at_call 46; refine (twice_any e _ C _ hC hB).mono ?_; rintro e1 w1 ⟨cs1, rfl, hM1, hb1⟩)
              | (refine wpl_store_row _ rfl 78 (.tmp 7) (.tmp 28) rfl rfl w.heap.size rfl cs1 rfl 78 C (hB.below hb1 hB.lt) (by rw [hM1.1]; exact HI.out) (by rw [hM1.1, hC.1]) hM1.one ?_; intro w2 hw2 hg2))
            go_roundw
            case rel =>
              refine ⟨(p : Int) / 2, e + e, y, cs1, by omega, rfl, rfl, ?_, hw2, hM1, ?_⟩
              · rw [← HY.out, show ((p : Int) / 2).toNat = p / 2 by omega, Int.toNat_natCast]; exact CrcM.even_step e p y H2.out
              · exact (below_step hbel hb1 (Nat.le_refl _)).grown hg2 (by have := hbel.size; have := hb1.size; omega) (by intro k hk; injection hk with hk; omega)
            case measure => simp [intOf]; omega
          · rw [if_pos h2] at hb
            have H2 := Lib.hid h2
            clear h2
            go_wp2_with (first
              | (go_at_call 45; refine (of_any _ e _ C _ hC hB).mono ?_; rintro e1 w1 ⟨rfl, rfl⟩)
              | (go_at_call 46; refine (twice_any e _ C _ hC hB).mono ?_; rintro e1 w1 ⟨cs1, rfl, hM1, hb1⟩)
              | (refine wpl_store_row _ rfl 78 (.tmp 7) (.tmp 28) rfl rfl w.heap.size rfl cs1 rfl 78 C (hB.below hb1 hB.lt) (by rw [hM1.1]; exact HI.out) (by rw [hM1.1, hC.1]) hM1.one ?_; intro w2 hw2 hg2))
            go_roundw
            case rel =>
              refine ⟨(p : Int) / 2, e + e, CrcM.stp e y, cs1, by omega, rfl, rfl, ?_, hw2, hM1, ?_⟩
              · rw [← HY.out, show ((p : Int) / 2).toNat = p / 2 by omega, Int.toNat_natCast]; exact CrcM.odd_step e p y H2.out
              · exact (below_step hbel hb1 (Nat.le_refl _)).grown hg2 (by have := hbel.size; have := hb1.size; omega) (by intro k hk; injection hk with hk; omega)
            case measure => simp [intOf]; omega
        · have hx := CrcM.xr_go y b
          go_wp2
          go_ret
          refine ⟨ret_int ?_, hbel⟩
          rw [← HY.out, show q.toNat = 0 by omega, Nat.mul_zero]; rfl
end Go.Proofs.Ytgcognefggbpjaa
