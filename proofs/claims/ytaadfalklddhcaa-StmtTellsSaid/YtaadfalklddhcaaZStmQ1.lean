/-
  Lists read from a reader: a count, and as many numbers, where there can be so many.
  Conditions: the reader lies in memory; its bytes lie below a bound.
-/
import Derived.Test.YtaadfalklddhcaaZStmM
import Derived.Test.YtaadfalklddhcaaZItemW5
import Derived.Test.YtaadfalklddhcaaZBj
import Derived.Deep.Cut
import Derived.Deep.CutBlock
import Derived.Maps.Range
namespace Go.Proofs.Ytaadfalklddhcaa
open Go.RowKit Go.Sort Go.Lib
set_option linter.unusedVariables false
set_option linter.unusedSimpArgs false
theorem info_u64 : (Try.prog.info? 27).map (fun i => (i.zero, i.size, i.bytes)) = some (some (.int .u64 0), 1, 8) := by kernel_rfl
/-- The slice of numbers of 64 bits is the call's own, and holds l. -/
def Own64 (w : World) (base : Nat) (A : Option Addr) (n c : Nat) (l : List Nat) : Prop := w.ownsRow base 27 1 (.slice A n c) n (u64s l)
theorem Own64.nil_ (w : World) (base : Nat) : Own64 w base none 0 0 [] := World.ownsRow_nil w base 27 1
theorem i32_wrap (n : Nat) : IntKind.i32.wrap (n : Int) = ItemM.i32 n := by
  unfold ItemM.i32
  rw [IntKind.wrap_i32]
theorem Own32.get {w : World} {base n c : Nat} {A : Option Addr} {l : List Int} (h : Own32 w base A n c l) : Row w A (i32s l) ∧ l.length = n := by
  refine ⟨Row.of_own h, ?_⟩
  have := h.1
  unfold i32s at this
  rw [List.length_map] at this; omega
theorem Own32.keptA {w w' : World} {base n c g : Nat} {A : Option Addr} {l : List Int} (h : Own32 w base A n c l) (hg : w.grownBy w' (some g)) (hlt : g < base) : Own32 w' base A n c l := by
  refine World.ownsRow.kept h hg ?_
  rcases h.2 with ⟨hv, _⟩ | ⟨g', cap, cur, hv, hb, _⟩
  · left; injection hv with e; rw [e]; rfl
  · right; injection hv with e; rw [e]; simp only [Value.ownBlock]; intro q; injection q with q; omega
theorem wpl_app32 (w : World) {ops : Array Oper} {rest : List Oper} {o : Oper} {a : Act} {Q : Exit → Act → World → Prop} (hgd : Region.wanted o (yielded ops a.tmps) = true) (s x : Operand)
    (ho : o.op = .call { callee := .builtin .append, args := #[s, x], argTypes := #[28, 28] })
    (base : Nat) (A : Option Addr) (c : Nat) (l : List Int) (n : Nat) (hs : a.eval s = .slice A n c) (hown : Own32 w base A n c l)
    (A2 : Option Addr) (c2 : Nat) (m : List Int) (k : Nat) (hx : a.eval x = .slice A2 k c2) (hk : m.length = k) (hr : Row w A2 (i32s m))
    (hlen : n + k ≤ 1000000) (hbase : base ≤ w.heap.size)
    (h : ∀ A' c' w', Own32 w' base A' (n + k) c' (l ++ m) → w.grownBy w' (Value.slice A n c).ownBlock → wpList Try.prog ops Q rest (a.put o.dst (.slice A' (n + k) c')) w') : wpList Try.prog ops Q (o :: rest) a w := by
  obtain ⟨i0, hi0, hz0, hz1, hz2⟩ := info_parts info_i32
  refine wpl_append w hgd s x _ ho base 21 i0 _ 1 4 Try.underlying28 hi0 hz0 hz1 hz2 rfl (by omega) _ n (i32s l) hs hown A2 k c2 (i32s m) hx (by unfold i32s; rw [List.length_map]; omega) hr (by intro u hu; unfold i32s at hu; obtain ⟨v, _, rfl⟩ := List.mem_map.1 hu; rfl)
    (by unfold maxLen; omega) (by omega) hbase fun A' c' w' h1 h2 h3 => h A' c' w' ?_ h2
  unfold Own32 i32s
  rw [List.map_append]
  exact h1
theorem row_i1A (w : World) (v : Int) : Row (w.alloc (.cells #[.int .i32 v] 21)) (some ⟨w.heap.size, 0, none⟩) (i32s [v]) :=
  .inr ⟨w.heap.size, 0, rfl, fun j u hu => by
    rw [Nat.zero_add, Blk.cell (Blk.new w 21 #[.int .i32 v]) j]
    simpa [i32s] using hu⟩
/-- A list is read. -/
def List32P (B gr : Nat) (L : List Int × CodeM.Rd) (w : World) (e : Ending) (w' : World) : Prop := ∃ A n c, e = .returned (.slice A n c) ∧ Hid (L.1.length = n) ∧ Own32 w' w.heap.size A n c L.1 ∧ RdIn B 111 w' gr L.2 ∧ w.grownBy w' (some gr)
theorem one32_any {B : Nat} (gr gp : Nat) (r : CodeM.Rd) (w : World) (hr : RdIn B 111 w gr r) (hp : w.cell? ⟨gp, 0, none⟩ = some (.pointer (some ⟨gr, 0, none⟩))) :
    Calls Try.prog 68 #[.pointer (some ⟨gp, 0, none⟩)] w (RdStepI B 111 gr (.int .i32 (ItemM.i32 (r.fixed 4).1)) (r.fixed 4).2 w) := by
  have H := Lib.hid (u32I_any gr r w hr)
  have hw := i32_wrap (r.fixed 4).1
  generalize r.fixed 4 = p at *
  go_enter Try.func68, Try.ntmps68
  go_wp2_with fail
  refine H.out.mono ?_
  rintro e w1 ⟨rfl, h1, h2⟩
  go_wp2
  go_ret
  exact ⟨by rw [← hw]; rfl, h1, h2⟩
set_option maxRecDepth 100000 in
set_option maxHeartbeats 4000000 in
theorem list32_any (B gr gp : Nat) (r : CodeM.Rd) (w : World) (hr : RdIn B 111 w gr r) (hp : w.cell? ⟨gp, 0, none⟩ = some (.pointer (some ⟨gr, 0, none⟩))) (hne : gp ≠ gr) (hB : B ≤ w.heap.size) :
    Calls Try.prog 67 #[.pointer (some ⟨gr, 0, none⟩), .int .i64 4, .int .i64 4096, .func (.func 68) #[] #[.pointer (some ⟨gp, 0, none⟩)]] w (List32P B gr (StmM.listC 4 4096 ItemM.vecs r) w) := by
  have HUV := Lib.hid (uvI_any gr r w hr)
  have hgr := hr.lt
  obtain ⟨p, hp0⟩ : ∃ p, r.uv = p := ⟨_, rfl⟩
  obtain ⟨n, r1⟩ := p
  have hlc : StmM.listC 4 4096 ItemM.vecs r = if 4096 < n ∨ r1.l.length < n * 4 then ([], r1) else ItemM.vecs n r1 := by unfold StmM.listC; rw [hp0]
  obtain ⟨LL, hLL⟩ : ∃ L, StmM.listC 4 4096 ItemM.vecs r = L := ⟨_, rfl⟩
  rw [hLL]
  rw [hlc] at hLL
  have HLL := Lib.hid hLL
  clear hLL
  rw [hp0] at HUV
  have hn64 : n < 18446744073709551616 := by have := uv_lt r; rw [hp0] at this; exact this
  have HP := Lib.hid hp
  clear hp
  clear hr hlc hp0
  go_enter Try.func67, Try.ntmps67
  go_wp2_with fail
  refine HUV.out.mono ?_
  rintro e w1 ⟨rfl, h1, hg1⟩
  clear HUV
  by_cases hbig : 4096 < n
  · obtain rfl : LL = ([], r1) := HLL.out.symm.trans (if_pos (.inl hbig))
    go_wp2
    go_ret
    exact ⟨none, 0, 0, rfl, Lib.hid rfl, Own32.nil_ _ _, h1, hg1⟩
  · have HL := left_any gr r1 w1 h1.at_
    have hw1 : IntKind.i64.wrap (n : Int) = (n : Int) := by rw [IntKind.wrap_i64]; omega
    have hw2 : IntKind.i64.wrap ((n : Int) * 4) = (n : Int) * 4 := by rw [IntKind.wrap_i64]; omega
    have hw3 : wrap64 (n : Int) = (n : Int) := by unfold wrap64; omega
    have hw4 : wrap64 ((n : Int) * 4) = (n : Int) * 4 := by unfold wrap64; omega
    go_wp2_with fail
    refine HL.mono ?_
    rintro e w1' ⟨rfl, rfl⟩
    by_cases hsh : r1.l.length < n * 4
    · obtain rfl : LL = ([], r1) := HLL.out.symm.trans (if_pos (.inr hsh))
      have hd : decide ((r1.l.length : Int) < (n : Int) * 4) = true := decide_eq_true (by omega)
      go_wp2
      go_ret
      exact ⟨none, 0, 0, rfl, Lib.hid rfl, Own32.nil_ _ _, h1, hg1⟩
    · obtain rfl : LL = ItemM.vecs n r1 := HLL.out.symm.trans (if_neg (by omega))
      have hd : decide ((r1.l.length : Int) < (n : Int) * 4) = false := decide_eq_false (by omega)
      have H1 := Lib.hid (And.intro h1 hg1)
      clear h1 hg1 HL
      go_wp2
      clear hd hsh hw1 hw2 hw3 hw4
      go_loopw [10, 27] (fun a i wr => ∃ (k : Nat) (A : Option Addr) (c : Nat), i = .int .u64 (k : Int) ∧ k ≤ n ∧ a = .slice A k c ∧ Own32 wr w.heap.size A k c (ItemM.vecs k r1).1 ∧ RdIn B 111 wr gr (ItemM.vecs k r1).2 ∧ w.grownBy wr (some gr)) (fun _ i _ => n - (RowKit.intOf i).toNat)
      case atStart => exact ⟨0, none, 0, rfl, Nat.zero_le _, rfl, Own32.nil_ _ _, H1.out.1, H1.out.2⟩
      case round =>
        obtain ⟨k, A, c, rfl, hk, rfl, hO, hR, hg⟩ := hrel
        by_cases hlt : k < n
        · have HC := Lib.hid (one32_any gr gp _ wr hR (hg.cell HP.out (by simp [hne])))
          have HX := Lib.hid (And.intro hO hg)
          clear hO hR hg H1
          go_wp2_with fail
          refine HC.out.mono ?_
          rintro e w2 ⟨rfl, hR2, hg2⟩
          have hO2 := Own32.keptA HX.out.1 hg2 hgr
          have hgw2 := HX.out.2.trans hg2
          have hga : w2.grownBy (w2.alloc (.cells #[.int .i32 (ItemM.i32 ((ItemM.vecs k r1).2.fixed 4).1)] 21)) none := World.grownBy_alloc w2 _ none
          have hba : Below w2.heap.size w2 (w2.alloc (.cells #[.int .i32 (ItemM.i32 ((ItemM.vecs k r1).2.fixed 4).1)] 21)) := (Below.refl _ _).alloc (Nat.le_refl _) _
          have hO3 : Own32 (w2.alloc (.cells #[.int .i32 (ItemM.i32 ((ItemM.vecs k r1).2.fixed 4).1)] 21)) w.heap.size A k c (ItemM.vecs k r1).1 := World.ownsRow.alloc hO2 _
          have hR3 := hR2.below hba
          have hs3 : w.heap.size ≤ (w2.alloc (.cells #[.int .i32 (ItemM.i32 ((ItemM.vecs k r1).2.fixed 4).1)] 21)).heap.size := Nat.le_trans hgw2.size hba.size
          have HY := Lib.hid (And.intro hO3 (And.intro hR3 (And.intro hs3 (hgw2.andThen hga (by intro j hj; cases hj)))))
          clear hR2 hg2 hO2 hgw2 hga hba hO3 hR3 hs3 HX HC
          go_wp2_with (at_builtin; refine wpl_app32 _ rfl (.tmp 29) (.tmp 32) rfl w.heap.size A c _ k rfl HY.out.1 (some ⟨w2.heap.size, 0, none⟩) 1 [(ItemM.i32 ((ItemM.vecs k r1).2.fixed 4).1)] 1 rfl rfl (row_i1A w2 (ItemM.i32 ((ItemM.vecs k r1).2.fixed 4).1)) (by omega) HY.out.2.2.1 ?_)
          intro A' c' w4 hO4 hg4
          have HZ : Hid (Own32 w4 w.heap.size A' (k + 1) c' (ItemM.vecs (k + 1) r1).1 ∧ RdIn B 111 w4 gr (ItemM.vecs (k + 1) r1).2 ∧ w.grownBy w4 (some gr)) := Lib.hid (by
            have hlt2 : ∀ j, (Value.slice A k c).ownBlock = some j → w.heap.size ≤ j := fun j hj => (World.ownsRow.lt HY.out.1 j hj).1
            refine ⟨hO4, ?_, HY.out.2.2.2.andThen hg4 (fun j hj => .inl (hlt2 j hj))⟩
            cases hob : (Value.slice A k c).ownBlock with
            | none =>
              rw [hob] at hg4
              exact HY.out.2.1.below ⟨hg4.os, hg4.tape, hg4.output, hg4.size, fun i hi => hg4.block i hi (by simp)⟩
            | some b =>
              rw [hob] at hg4
              have := hlt2 b hob
              exact HY.out.2.1.above hg4 (by omega) (by omega))
          clear hO4 hg4 HY
          go_wp2
          go_roundw
          case rel => exact ⟨k + 1, A', c', by go_num, by omega, rfl, HZ.out.1, HZ.out.2.1, HZ.out.2.2⟩
          case measure => simp [RowKit.intOf]; omega
        · obtain rfl : k = n := by omega
          have HX := Lib.hid (And.intro hO (And.intro hR hg))
          clear hO hR hg H1
          go_wp2
          go_ret
          exact ⟨A, k, c, rfl, Lib.hid (ItemM.vecs_length k r1), HX.out.1, HX.out.2.1, HX.out.2.2⟩
theorem Own64.get {w : World} {base n c : Nat} {A : Option Addr} {l : List Nat} (h : Own64 w base A n c l) : Row w A (u64s l) ∧ l.length = n := by
  refine ⟨Row.of_own h, ?_⟩
  have := h.1
  unfold u64s at this
  rw [List.length_map] at this; omega
theorem Own64.keptA {w w' : World} {base n c g : Nat} {A : Option Addr} {l : List Nat} (h : Own64 w base A n c l) (hg : w.grownBy w' (some g)) (hlt : g < base) : Own64 w' base A n c l := by
  refine World.ownsRow.kept h hg ?_
  rcases h.2 with ⟨hv, _⟩ | ⟨g', cap, cur, hv, hb, _⟩
  · left; injection hv with e; rw [e]; rfl
  · right; injection hv with e; rw [e]; simp only [Value.ownBlock]; intro q; injection q with q; omega
theorem wpl_app64 (w : World) {ops : Array Oper} {rest : List Oper} {o : Oper} {a : Act} {Q : Exit → Act → World → Prop} (hgd : Region.wanted o (yielded ops a.tmps) = true) (s x : Operand)
    (ho : o.op = .call { callee := .builtin .append, args := #[s, x], argTypes := #[40, 40] })
    (base : Nat) (A : Option Addr) (c : Nat) (l : List Nat) (n : Nat) (hs : a.eval s = .slice A n c) (hown : Own64 w base A n c l)
    (A2 : Option Addr) (c2 : Nat) (m : List Nat) (k : Nat) (hx : a.eval x = .slice A2 k c2) (hk : m.length = k) (hr : Row w A2 (u64s m))
    (hlen : n + k ≤ 1000000) (hbase : base ≤ w.heap.size)
    (h : ∀ A' c' w', Own64 w' base A' (n + k) c' (l ++ m) → w.grownBy w' (Value.slice A n c).ownBlock → wpList Try.prog ops Q rest (a.put o.dst (.slice A' (n + k) c')) w') : wpList Try.prog ops Q (o :: rest) a w := by
  obtain ⟨i0, hi0, hz0, hz1, hz2⟩ := info_parts info_u64
  refine wpl_append w hgd s x _ ho base 27 i0 _ 1 8 Try.underlying40 hi0 hz0 hz1 hz2 rfl (by omega) _ n (u64s l) hs hown A2 k c2 (u64s m) hx (by unfold u64s; rw [List.length_map]; omega) hr (by intro u hu; unfold u64s at hu; obtain ⟨v, _, rfl⟩ := List.mem_map.1 hu; rfl)
    (by unfold maxLen; omega) (by omega) hbase fun A' c' w' h1 h2 h3 => h A' c' w' ?_ h2
  unfold Own64 u64s
  rw [List.map_append]
  exact h1
theorem row_u1A (w : World) (v : Nat) : Row (w.alloc (.cells #[.int .u64 (v : Int)] 27)) (some ⟨w.heap.size, 0, none⟩) (u64s [v]) :=
  .inr ⟨w.heap.size, 0, rfl, fun j u hu => by
    rw [Nat.zero_add, Blk.cell (Blk.new w 27 #[.int .u64 (v : Int)]) j]
    simpa [u64s] using hu⟩
/-- A list is read. -/
def List64P (B gr : Nat) (L : List Nat × CodeM.Rd) (w : World) (e : Ending) (w' : World) : Prop := ∃ A n c, e = .returned (.slice A n c) ∧ Hid (L.1.length = n) ∧ Own64 w' w.heap.size A n c L.1 ∧ RdIn B 111 w' gr L.2 ∧ w.grownBy w' (some gr)

set_option maxRecDepth 100000 in
set_option maxHeartbeats 4000000 in
theorem list64_any (B gr : Nat) (r : CodeM.Rd) (w : World) (hr : RdIn B 111 w gr r)  (hB : B ≤ w.heap.size) :
    Calls Try.prog 71 #[.pointer (some ⟨gr, 0, none⟩), .int .i64 8, .int .i64 4096, .func (.func 37) #[.pointer (some ⟨gr, 0, none⟩)] #[]] w (List64P B gr (StmM.listC 8 4096 StmM.fls r) w) := by
  have HUV := Lib.hid (uvI_any gr r w hr)
  have hgr := hr.lt
  obtain ⟨p, hp0⟩ : ∃ p, r.uv = p := ⟨_, rfl⟩
  obtain ⟨n, r1⟩ := p
  have hlc : StmM.listC 8 4096 StmM.fls r = if 4096 < n ∨ r1.l.length < n * 8 then ([], r1) else StmM.fls n r1 := by unfold StmM.listC; rw [hp0]
  obtain ⟨LL, hLL⟩ : ∃ L, StmM.listC 8 4096 StmM.fls r = L := ⟨_, rfl⟩
  rw [hLL]
  rw [hlc] at hLL
  have HLL := Lib.hid hLL
  clear hLL
  rw [hp0] at HUV
  have hn64 : n < 18446744073709551616 := by have := uv_lt r; rw [hp0] at this; exact this
  
  clear hr hlc hp0
  go_enter Try.func71, Try.ntmps71
  go_wp2_with fail
  refine HUV.out.mono ?_
  rintro e w1 ⟨rfl, h1, hg1⟩
  clear HUV
  by_cases hbig : 4096 < n
  · obtain rfl : LL = ([], r1) := HLL.out.symm.trans (if_pos (.inl hbig))
    go_wp2
    go_ret
    exact ⟨none, 0, 0, rfl, Lib.hid rfl, Own64.nil_ _ _, h1, hg1⟩
  · have HL := left_any gr r1 w1 h1.at_
    have hw1 : IntKind.i64.wrap (n : Int) = (n : Int) := by rw [IntKind.wrap_i64]; omega
    have hw2 : IntKind.i64.wrap ((n : Int) * 8) = (n : Int) * 8 := by rw [IntKind.wrap_i64]; omega
    have hw3 : wrap64 (n : Int) = (n : Int) := by unfold wrap64; omega
    have hw4 : wrap64 ((n : Int) * 8) = (n : Int) * 8 := by unfold wrap64; omega
    go_wp2_with fail
    refine HL.mono ?_
    rintro e w1' ⟨rfl, rfl⟩
    by_cases hsh : r1.l.length < n * 8
    · obtain rfl : LL = ([], r1) := HLL.out.symm.trans (if_pos (.inr hsh))
      have hd : decide ((r1.l.length : Int) < (n : Int) * 8) = true := decide_eq_true (by omega)
      go_wp2
      go_ret
      exact ⟨none, 0, 0, rfl, Lib.hid rfl, Own64.nil_ _ _, h1, hg1⟩
    · obtain rfl : LL = StmM.fls n r1 := HLL.out.symm.trans (if_neg (by omega))
      have hd : decide ((r1.l.length : Int) < (n : Int) * 8) = false := decide_eq_false (by omega)
      have H1 := Lib.hid (And.intro h1 hg1)
      clear h1 hg1 HL
      go_wp2
      clear hd hsh hw1 hw2 hw3 hw4
      go_loopw [10, 27] (fun a i wr => ∃ (k : Nat) (A : Option Addr) (c : Nat), i = .int .u64 (k : Int) ∧ k ≤ n ∧ a = .slice A k c ∧ Own64 wr w.heap.size A k c (StmM.fls k r1).1 ∧ RdIn B 111 wr gr (StmM.fls k r1).2 ∧ w.grownBy wr (some gr)) (fun _ i _ => n - (RowKit.intOf i).toNat)
      case atStart => exact ⟨0, none, 0, rfl, Nat.zero_le _, rfl, Own64.nil_ _ _, H1.out.1, H1.out.2⟩
      case round =>
        obtain ⟨k, A, c, rfl, hk, rfl, hO, hR, hg⟩ := hrel
        by_cases hlt : k < n
        · have HC := Lib.hid (u64I_any gr _ wr hR)
          have HX := Lib.hid (And.intro hO hg)
          clear hO hR hg H1
          go_wp2_with fail
          refine HC.out.mono ?_
          rintro e w2 ⟨rfl, hR2, hg2⟩
          have hO2 := Own64.keptA HX.out.1 hg2 hgr
          have hgw2 := HX.out.2.trans hg2
          have hga : w2.grownBy (w2.alloc (.cells #[.int .u64 (((StmM.fls k r1).2.fixed 8).1 : Int)] 27)) none := World.grownBy_alloc w2 _ none
          have hba : Below w2.heap.size w2 (w2.alloc (.cells #[.int .u64 (((StmM.fls k r1).2.fixed 8).1 : Int)] 27)) := (Below.refl _ _).alloc (Nat.le_refl _) _
          have hO3 : Own64 (w2.alloc (.cells #[.int .u64 (((StmM.fls k r1).2.fixed 8).1 : Int)] 27)) w.heap.size A k c (StmM.fls k r1).1 := World.ownsRow.alloc hO2 _
          have hR3 := hR2.below hba
          have hs3 : w.heap.size ≤ (w2.alloc (.cells #[.int .u64 (((StmM.fls k r1).2.fixed 8).1 : Int)] 27)).heap.size := Nat.le_trans hgw2.size hba.size
          have HY := Lib.hid (And.intro hO3 (And.intro hR3 (And.intro hs3 (hgw2.andThen hga (by intro j hj; cases hj)))))
          clear hR2 hg2 hO2 hgw2 hga hba hO3 hR3 hs3 HX HC
          go_wp2_with (at_builtin; refine wpl_app64 _ rfl (.tmp 29) (.tmp 32) rfl w.heap.size A c _ k rfl HY.out.1 (some ⟨w2.heap.size, 0, none⟩) 1 [((StmM.fls k r1).2.fixed 8).1] 1 rfl rfl (row_u1A w2 ((StmM.fls k r1).2.fixed 8).1) (by omega) HY.out.2.2.1 ?_)
          intro A' c' w4 hO4 hg4
          have HZ : Hid (Own64 w4 w.heap.size A' (k + 1) c' (StmM.fls (k + 1) r1).1 ∧ RdIn B 111 w4 gr (StmM.fls (k + 1) r1).2 ∧ w.grownBy w4 (some gr)) := Lib.hid (by
            have hlt2 : ∀ j, (Value.slice A k c).ownBlock = some j → w.heap.size ≤ j := fun j hj => (World.ownsRow.lt HY.out.1 j hj).1
            refine ⟨hO4, ?_, HY.out.2.2.2.andThen hg4 (fun j hj => .inl (hlt2 j hj))⟩
            cases hob : (Value.slice A k c).ownBlock with
            | none =>
              rw [hob] at hg4
              exact HY.out.2.1.below ⟨hg4.os, hg4.tape, hg4.output, hg4.size, fun i hi => hg4.block i hi (by simp)⟩
            | some b =>
              rw [hob] at hg4
              have := hlt2 b hob
              exact HY.out.2.1.above hg4 (by omega) (by omega))
          clear hO4 hg4 HY
          go_wp2
          go_roundw
          case rel => exact ⟨k + 1, A', c', by go_num, by omega, rfl, HZ.out.1, HZ.out.2.1, HZ.out.2.2⟩
          case measure => simp [RowKit.intOf]; omega
        · obtain rfl : k = n := by omega
          have HX := Lib.hid (And.intro hO (And.intro hR hg))
          clear hO hR hg H1
          go_wp2
          go_ret
          exact ⟨A, k, c, rfl, Lib.hid (StmM.fls_length k r1), HX.out.1, HX.out.2.1, HX.out.2.2⟩
end Go.Proofs.Ytaadfalklddhcaa
