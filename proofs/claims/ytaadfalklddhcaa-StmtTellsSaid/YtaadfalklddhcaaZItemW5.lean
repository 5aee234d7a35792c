/-
  Slices of components of the call's own: append; the reading of a record by the program.
  Conditions: the bytes lie in memory as a list; their number is bounded.
-/
import Derived.Test.YtaadfalklddhcaaZBj
import Derived.Test.YtaadfalklddhcaaZDj
import Derived.Test.YtaadfalklddhcaaZEj
import Derived.Deep.RegionLaw
import Derived.Laws.ResultCell
import Derived.Laws.Rows
namespace Go.Proofs.Ytaadfalklddhcaa
open Go.RowKit Go.Sort Go.Lib
set_option linter.unusedVariables false
theorem info_i32 : (Try.prog.info? 21).map (fun i => (i.zero, i.size, i.bytes)) = some (some (.int .i32 0), 1, 4) := by kernel_rfl
/-- The slice of components (A, n, c) is the call's own, and holds l. -/
def Own32 (w : World) (base : Nat) (A : Option Addr) (n c : Nat) (l : List Int) : Prop := w.ownsRow base 21 1 (.slice A n c) n (i32s l)
section
variable {w w' : World} {base n c : Nat} {A : Option Addr} {l : List Int}
theorem Own32.nil_ (w : World) (base : Nat) : Own32 w base none 0 0 [] := World.ownsRow_nil w base 21 1
theorem Own32.row (h : Own32 w base A n c l) : Row w A (i32s l) := Row.of_own h
theorem Own32.len (h : Own32 w base A n c l) : l.length = n := by
  have := h.1
  unfold i32s at this
  rw [List.length_map] at this; omega
theorem Own32.alloc (h : Own32 w base A n c l) (o : Obj) : Own32 (w.alloc o) base A n c l := World.ownsRow.alloc h o
theorem Own32.below (h : Own32 w base A n c l) (hb : Below w.heap.size w w') : Own32 w' base A n c l := by
  refine ⟨h.1, ?_⟩
  rcases h.2 with hn | ⟨g, cap, cur, e, hb', hg, rest⟩
  · exact .inl hn
  · refine .inr ⟨g, cap, cur, e, hb', ?_, rest⟩
    rw [hb.block g (Array.getElem?_eq_some_iff.1 hg).1]; exact hg
theorem Own32.kept {g : Nat} (h : Own32 w base A n c l) (hg : w.grownBy w' (some g)) (hlt : g < base) : Own32 w' base A n c l := by
  refine World.ownsRow.kept h hg ?_
  rcases h.2 with ⟨hv, _⟩ | ⟨g', cap, cur, hv, hb, _⟩
  · left; injection hv with e; rw [e]; rfl
  · right; injection hv with e; rw [e]; simp only [Value.ownBlock]; intro q; injection q with q; omega
theorem Own32.base_ {b : Nat} (h : Own32 w base A n c l) (hb : b ≤ base) : Own32 w b A n c l := by
  refine ⟨h.1, ?_⟩
  rcases h.2 with hn | ⟨g, cap, cur, e, hb', rest⟩
  · exact .inl hn
  · exact .inr ⟨g, cap, cur, e, by omega, rest⟩
theorem Own32.grown_below {row : Option Nat} {B : Nat} {w0 : World} (h : Own32 w base A n c l) (hrow : row = (Value.slice A n c).ownBlock) (hg : w.grownBy w' row) (hb : Below B w0 w) (hB : B ≤ base) (hs : B ≤ w.heap.size) : Below B w0 w' :=
  hb.grown hg hs fun k hk => by
    have := World.ownsRow.lt h k (by rw [← hrow]; exact hk)
    omega
theorem Own32.block_ge (h : Own32 w base A n c l) : ∀ k, (Value.slice A n c).ownBlock = some k → base ≤ k := by
  intro k hk
  have := World.ownsRow.lt h k hk
  omega
theorem row_i1 (w : World) (v : Int) : Row (w.alloc (.cells #[.int .i32 v] 21)) (some ⟨w.heap.size, 0, none⟩) (i32s [v]) :=
  .inr ⟨w.heap.size, 0, rfl, fun j u hu => by
    rw [Nat.zero_add, Blk.cell (Blk.new w 21 #[.int .i32 v]) j]
    simpa [i32s] using hu⟩
/-- append at a step of a region that draws its order. -/
theorem step_app32 (w : World) {ops : Array Oper} {o : Oper} {a : Act} {K : Act → World → Prop} {Q : Exit → Act → World → Prop} {E : Prop} (hgd : o.guard = none) (s x : Operand)
    (ho : o.op = .call { callee := .builtin .append, args := #[s, x], argTypes := #[28, 28] })
    (base : Nat) (A : Option Addr) (c : Nat) (l : List Int) (n : Nat) (hs : a.eval s = .slice A n c) (hown : Own32 w base A n c l)
    (A2 : Option Addr) (c2 : Nat) (m : List Int) (k : Nat) (hx : a.eval x = .slice A2 k c2) (hk : m.length = k) (hr : Row w A2 (i32s m))
    (hlen : n + k ≤ 34359738368) (hbase : base ≤ w.heap.size)
    (h : ∀ A' c' w', Own32 w' base A' (n + k) c' (l ++ m) → w.grownBy w' (Value.slice A n c).ownBlock → K (a.put o.dst (.slice A' (n + k) c')) w') :
    if Region.wanted o (yielded ops a.tmps) = true then Oper.wp Try.prog o a w K Q else E := by
  have hw : Region.wanted o (yielded ops a.tmps) = true := by simp [Region.wanted, hgd]
  rw [if_pos hw]
  subst hk
  obtain ⟨i0, hi0, hz0, hz1, hz2⟩ := info_parts info_i32
  refine wp_append_row w s x _ ho base 21 i0 _ 1 4 Try.underlying28 hi0 hz0 hz1 hz2 rfl (by omega) _ n (i32s l) hs hown A2 m.length c2 (i32s m) hx (by unfold i32s; rw [List.length_map]; omega) hr (by intro u hu; unfold i32s at hu; obtain ⟨v, _, rfl⟩ := List.mem_map.1 hu; rfl)
    (by unfold maxLen; omega) (by omega) hbase fun A' c' w' h1 h2 h3 => h A' c' w' ?_ h2
  unfold Own32 i32s
  rw [List.map_append]
  exact h1
end
/-- A return whose first result lies in a block. -/
theorem ret_cell {P : Program} {fn : Func} {R : Ending → World → Prop} {a : Act} {w : World} {p u : Tmp} {ty : TypeId} (h : fn.results = #[.cell p ty, .tmp u]) (g : Nat) (cs : Array Value) (d : TypeDesc)
    (hp : a.tmps.getD p undef = .pointer (some ⟨g, 0, none⟩)) (hB : Blk w g ty cs) (hu : P.underlying ty = some d) (hd : (match d with | .struct _ | .array _ _ => true | _ => false) = true) (hi : (P.info? ty).map (·.size) = some cs.size)
    (hdf : a.defers = []) (hR : R (.returned (.tuple #[.agg cs, a.tmps.getD u undef])) w) : bodyPost P fn R .ret a w := by
  refine bodyPost_ret ?_ hdf hR
  rw [results_cell_tmp h, hp]
  simp [asAddr, run_loadVar_row w g ty ty cs (0, 0) d hB hu hd hi, Result.andThen]
theorem below_set {B g : Nat} {a w : World} (h : Below B a w) (hs : B ≤ w.heap.size) (hg : B ≤ g) (i : Nat) (v : Value) : Below B a (w.setCell ⟨g, i, none⟩ v) := below_grown h (grownBy_setCell w g i v) hs hg
/-- What the reading returns, where nothing is read. -/
def ReadNo (w : World) (e : Ending) (w' : World) : Prop := e = .returned (.tuple #[.agg #[.int .u64 0, .slice none 0 0, .slice none 0 0], .int .i64 4]) ∧ Below w.heap.size w w'
def ReadYes (x : Itm) (w : World) (e : Ending) (w' : World) : Prop := ∃ A n c A2 n2 c2, e = .returned (.tuple #[.agg #[.int .u64 (x.key : Int), .slice A n c, .slice A2 n2 c2], .int .i64 0]) ∧ Hid (x.vec.length = n) ∧ Hid (x.note.length = n2) ∧ Own32 w' w.heap.size A n c x.vec ∧ Own w' w.heap.size A2 c2 x.note ∧ Below w.heap.size w w'
def ReadPost (r : Option Itm) (w : World) (e : Ending) (w' : World) : Prop := match r with
  | none => ReadNo w e w'
  | some x => ReadYes x w e w'
theorem RdIn.belowC {B C : Nat} {t : TypeId} {w w' : World} {g : Nat} {r : CodeM.Rd} (h : RdIn B t w g r) (hb : Below C w w') (hg : g < C) (hBC : B ≤ C) : RdIn B t w' g r := by
  obtain ⟨A, n, c, hB, h1, h2, h3, h4, h5⟩ := h
  refine ⟨A, n, c, hB.below hb hg, h1, h2, h3, ?_, h5⟩
  rcases h5 with h5 | h5
  · rw [h5]; exact .inl rfl
  rcases h4 with h4 | ⟨b, o, e, hc⟩
  · exact .inl h4
  · exact .inr ⟨b, o, e, fun j u hu => (hb.cell (p := ⟨b, o + j, none⟩) (show b < C from Nat.lt_of_lt_of_le (h5 ⟨b, o, none⟩ e) hBC)).trans (hc j u hu)⟩
/-- What holds ahead of round k of the reading. -/
structure RInv (tR : TypeId) (w0 : World) (B R X g key : Nat) (r2 : CodeM.Rd) (k : Nat) (w : World) (A : Option Addr) (c : Nat) : Prop where
  rd : RdIn B tR w g (ItemM.vecs k r2).2
  own : Own32 w (X + 1) A k c (ItemM.vecs k r2).1
  x : Blk w X 30 #[.int .u64 (key : Int), .slice A k c, .slice none 0 0]
  r : Blk w R 30 #[.int .u64 0, .slice none 0 0, .slice none 0 0]
  bel : Below w0.heap.size w0 w
  size : X + 1 ≤ w.heap.size
theorem fixed4_lt (r : CodeM.Rd) : (r.fixed 4).1 < 4294967296 := by
  obtain ⟨l, e⟩ := r
  by_cases he : e = 0
  · subst he
    by_cases hl : l.length < 4
    · rw [CodeM.fixed_fail hl]; omega
    · rw [CodeM.fixed_ok hl]
      have := CodeM.le_take_lt l 4 (by omega)
      have h8 : (256 : Nat) ^ 4 = 4294967296 := by decide
      omega
  · rw [CodeM.fixed_err he]; omega
theorem fixed8_lt (r : CodeM.Rd) : (r.fixed 8).1 < 18446744073709551616 := by
  obtain ⟨l, e⟩ := r
  by_cases he : e = 0
  · subst he
    by_cases hl : l.length < 8
    · rw [CodeM.fixed_fail hl]; omega
    · rw [CodeM.fixed_ok hl]
      have := CodeM.le_take_lt l 8 (by omega)
      have h8 : (256 : Nat) ^ 8 = 18446744073709551616 := by decide
      omega
  · rw [CodeM.fixed_err he]; omega
theorem uv_lt (r : CodeM.Rd) : (r.uv).1 < 18446744073709551616 := by
  obtain ⟨l, e⟩ := r
  by_cases he : e = 0
  · subst he
    cases hq : CodeM.cnt l with
    | none => rw [CodeM.uv_fail hq]; omega
    | some q => obtain ⟨m, k⟩ := q; rw [CodeM.uv_ok hq]; exact (CodeM.cnt_some hq).1
  · rw [CodeM.uv_err he]; omega
set_option maxRecDepth 100000 in
set_option maxHeartbeats 8000000 in
theorem itemread_any (A : Option Addr) (c : Nat) (b : List UInt8) (w : World) (hr : Row w A (bs b)) (hc : b.length ≤ 140737488355328) :
    Calls Try.prog 31 #[.slice A b.length c] w (ReadPost (ItemM.readP b) w) := by
  obtain ⟨R0, hR0⟩ : ∃ r, CodeM.Rd.fixed 8 ⟨b, 0⟩ = r := ⟨_, rfl⟩
  obtain ⟨key, r1⟩ := R0
  obtain ⟨R1, hR1⟩ : ∃ r, r1.uv = r := ⟨_, rfl⟩
  obtain ⟨n, r2⟩ := R1
  have hkey : key < 18446744073709551616 := by have := fixed8_lt ⟨b, 0⟩; rw [hR0] at this; exact this
  have hn64 : n < 18446744073709551616 := by have := uv_lt r1; rw [hR1] at this; exact this
  have hP : ItemM.readP b = if 4096 < n ∨ r2.l.length < 4 * n then none else ItemM.fin key (ItemM.vecs n r2).1 ((ItemM.vecs n r2).2.text 1024) := by
    unfold ItemM.readP
    rw [hR0]
    simp only [hR1]
  obtain ⟨X0, hX0⟩ : ∃ r, ItemM.readP b = r := ⟨_, rfl⟩
  rw [hX0]
  rw [hX0] at hP
  have HP := Lib.hid hP
  have H0 := Lib.hid hR0
  have H1 := Lib.hid hR1
  clear hP hR0 hR1 hX0
  go_enter Try.func31, Try.ntmps31
  go_wp2_with fail
  refine (newreaderO_any A c b _ (hr.alloc _) hc).mono ?_
  rintro e w1 ⟨g, A1, c1, rfl, hg, hg1, hB, hO, hb1⟩
  have hR := (Blk.new w 30 #[.int .u64 0, .slice none 0 0, .slice none 0 0]).below hb1 (by simp)
  have b1 : Below w.heap.size w w1 := below_step ((Below.refl w.heap.size w).alloc (Nat.le_refl _) _) hb1 (Nat.le_refl _)
  have hgw : w.heap.size < g := by simp at hg; omega
  obtain ⟨Bd, hBd⟩ : ∃ n, w1.heap.size = n := ⟨_, rfl⟩
  have r0 : RdIn Bd 111 w1 g ⟨b, 0⟩ := RdAt.in_ ⟨A1, b.length, c1, hB, rfl, ⟨hO.le.1, hc⟩, hO.le.2, hO.row⟩ (by omega)
  clear hb1 hg hB hO hr
  go_wp2_with fail
  refine (u64I_any (B := Bd) g ⟨b, 0⟩ w1 r0).mono ?_
  rw [H0.out]
  rintro e w2 ⟨rfl, q1, g2⟩
  dsimp only at *
  have hs2 := g2.size
  have b2 : Below w.heap.size w w2 := below_grown b1 g2 b1.size (by omega)
  have hR2 := hR.grown g2 (by intro q; injection q with q; omega)
  clear r0 g2 b1 hR
  go_wp2_with fail
  have hX := Blk.new w2 30 #[.int .u64 (key : Int), .slice none 0 0, .slice none 0 0]
  have hR3 := hR2.alloc (.cells #[.int .u64 (key : Int), .slice none 0 0, .slice none 0 0] 30)
  have q3 := q1.below ((Below.refl w2.heap.size w2).alloc (Nat.le_refl _) (.cells #[.int .u64 (key : Int), .slice none 0 0, .slice none 0 0] 30))
  have b3 := b2.alloc b2.size (.cells #[.int .u64 (key : Int), .slice none 0 0, .slice none 0 0] 30)
  have hs3 : (w2.alloc (.cells #[.int .u64 (key : Int), .slice none 0 0, .slice none 0 0] 30)).heap.size = w2.heap.size + 1 := by simp
  obtain ⟨X, hXe⟩ : ∃ n, w2.heap.size = n := ⟨_, rfl⟩
  rw [hXe] at hX hs3 hs2
  have HXE := Lib.hid hXe
  generalize hw3 : w2.alloc (.cells #[.int .u64 (key : Int), .slice none 0 0, .slice none 0 0] 30) = w3 at *
  refine (uvI_any (B := Bd) g r1 w3 q3).mono ?_
  rw [H1.out]
  rintro e w4 ⟨rfl, q4, g4⟩
  dsimp only at *
  have hs4 := g4.size
  have hgX : g < X := by omega
  have hBX : Bd ≤ X := by omega
  have hRX : w.heap.size < X := by omega
  have I0 : Hid (RInv 111 w Bd w.heap.size X g key r2 0 w4 none 0) := Lib.hid ⟨q4, Own32.nil_ _ _, hX.grown g4 (by intro q; injection q with q; omega), hR3.grown g4 (by intro q; injection q with q; omega), below_grown b3 g4 b3.size (by omega), by omega⟩
  clear g4 q4 q3 q1 hX hR3 hR2 b2 b3 hw3
  by_cases hbig : 4096 < n
  · have HN : Hid (X0 = none) := Lib.hid (by rw [HP.out, if_pos (.inl hbig)])
    have f0 := I0.out.r.frozen 0
    have f1 := I0.out.r.frozen 1
    have f2 := I0.out.r.frozen 2
    have c0 := I0.out.r.cell 0
    have c1 := I0.out.r.cell 1
    have c2 := I0.out.r.cell 2
    simp only [List.getElem?_toArray, List.getElem?_cons_zero, List.getElem?_cons_succ] at c0 c1 c2
    rw [HXE.out]
    go_wp2
    refine ret_cell rfl w.heap.size #[.int .u64 0, .slice none 0 0, .slice none 0 0] _ rfl (((I0.out.r.set_ 0 _).set_ 1 _).set_ 2 _) Try.underlying30 rfl (by kernel_rfl) rfl ?_
    rw [HN.out]
    exact ⟨rfl, below_set (below_set (below_set I0.out.bel I0.out.bel.size (Nat.le_refl _) _ _) (by simpa using I0.out.bel.size) (Nat.le_refl _) _ _) (by simpa using I0.out.bel.size) (Nat.le_refl _) _ _⟩
  · have hni : IntKind.i64.wrap (n : Int) = (n : Int) := by rw [IntKind.wrap_i64]; omega
    have hd0 : decide ((4096 : Int) < n) = false := decide_eq_false (by omega)
    go_wp2_with fail
    refine (left_any g r2 w4 I0.out.rd.at_).mono ?_
    rintro e w5 ⟨rfl, rfl⟩
    by_cases hshort : r2.l.length < 4 * n
    · have HN : Hid (X0 = none) := Lib.hid (by rw [HP.out, if_pos (.inr hshort)])
      have hd1 : decide ((r2.l.length : Int) < 4 * (n : Int)) = true := decide_eq_true (by omega)
      have f0 := I0.out.r.frozen 0
      have f1 := I0.out.r.frozen 1
      have f2 := I0.out.r.frozen 2
      have c0 := I0.out.r.cell 0
      have c1 := I0.out.r.cell 1
      have c2 := I0.out.r.cell 2
      simp only [List.getElem?_toArray, List.getElem?_cons_zero, List.getElem?_cons_succ] at c0 c1 c2
      rw [HXE.out]
      go_wp2
      refine ret_cell rfl w.heap.size #[.int .u64 0, .slice none 0 0, .slice none 0 0] _ rfl (((I0.out.r.set_ 0 _).set_ 1 _).set_ 2 _) Try.underlying30 rfl (by kernel_rfl) rfl ?_
      rw [HN.out]
      exact ⟨rfl, below_set (below_set (below_set I0.out.bel I0.out.bel.size (Nat.le_refl _) _ _) (by simpa using I0.out.bel.size) (Nat.le_refl _) _ _) (by simpa using I0.out.bel.size) (Nat.le_refl _) _ _⟩
    · have HF : Hid (X0 = ItemM.fin key (ItemM.vecs n r2).1 ((ItemM.vecs n r2).2.text 1024)) := Lib.hid (by rw [HP.out, if_neg (by omega)])
      have hd1 : decide ((r2.l.length : Int) < 4 * (n : Int)) = false := decide_eq_false (by omega)
      rw [HXE.out]
      go_wp2
      clear hd1 hshort HP H0 H1
      go_loopw [26] (fun i wr => ∃ (k : Nat) (A3 : Option Addr) (c3 : Nat), i = .int .u64 k ∧ k ≤ n ∧ RInv 111 w Bd w.heap.size X g key r2 k wr A3 c3) (fun i _ => n - (RowKit.intOf i).toNat)
      case atStart => exact ⟨0, none, 0, rfl, by omega, I0.out⟩
      case round =>
        obtain ⟨k, A3, c3, rfl, hk, hI⟩ := hrel
        have HI := Lib.hid hI
        clear hI
        by_cases hlt : k < n
        · obtain ⟨q, hq⟩ : ∃ q, (ItemM.vecs k r2).2.fixed 4 = q := ⟨_, rfl⟩
          obtain ⟨m, r'⟩ := q
          have hm : m < 4294967296 := by have := fixed4_lt (ItemM.vecs k r2).2; rw [hq] at this; exact this
          have HQ := Lib.hid hq
          have HV1 : Hid ((ItemM.vecs (k + 1) r2).1 = (ItemM.vecs k r2).1 ++ [ItemM.i32 m]) := Lib.hid (by show (ItemM.vecs k r2).1 ++ [ItemM.i32 ((ItemM.vecs k r2).2.fixed 4).1] = _; rw [hq])
          have HV2 : Hid ((ItemM.vecs (k + 1) r2).2 = r') := Lib.hid (by show ((ItemM.vecs k r2).2.fixed 4).2 = _; rw [hq])
          have hwm : IntKind.i32.wrap (m : Int) = ItemM.i32 m := by rw [IntKind.wrap_i32]; rfl
          have hx1 := HI.out.x.cell 1
          have hx1d : wr.drew.cell? ⟨X, 1, none⟩ = some (.slice A3 k c3) := by simpa using hx1
          have RDD : Hid (RdIn Bd 111 wr.drew g (ItemM.vecs k r2).2) := Lib.hid HI.out.rd
          have OWD : Hid (Own32 wr.drew (X + 1) A3 k c3 (ItemM.vecs k r2).1) := Lib.hid HI.out.own
          have XD : Hid (Blk wr.drew X 30 #[.int .u64 (key : Int), .slice A3 k c3, .slice none 0 0]) := Lib.hid HI.out.x
          have RD : Hid (Blk wr.drew w.heap.size 30 #[.int .u64 0, .slice none 0 0, .slice none 0 0]) := Lib.hid HI.out.r
          have BD : Hid (Below w.heap.size w wr.drew) := Lib.hid ⟨HI.out.bel.os, HI.out.bel.tape, HI.out.bel.output, HI.out.bel.size, HI.out.bel.block⟩
          have SD : Hid (X + 1 ≤ wr.drew.heap.size) := Lib.hid HI.out.size
          clear hq hx1
          go_wp2
          go_region_law (first
            | (refine step_app32 _ rfl (.tmp 29) (.tmp 33) rfl (X + 1) A3 c3 (ItemM.vecs k r2).1 k (by first | rfl | simp [Act.eval, Act.put]) (OW6.out.alloc _) (some ⟨w6.heap.size, 0, none⟩) 1 [ItemM.i32 m] 1 (by first | rfl | simp [Act.eval, Act.put]) rfl (row_i1 w6 _) (by omega) (by have := S6.out; simp; omega) ?_
               intro A7 c7 w7 h7 hg7
               have B7 : Hid (Below (X + 1) w6 w7) := Lib.hid ((OW6.out.alloc _).grown_below rfl hg7 ((Below.refl _ _).alloc S6.out _) (Nat.le_refl _) (by have := S6.out; simp; omega))
               have O7 := Lib.hid h7
               have X7 := Lib.hid (X6.out.below B7.out (by omega))
               have f7 := X7.out.frozen 1
               have c7' := X7.out.cell 1
               simp only [List.getElem?_toArray, List.getElem?_cons_zero, List.getElem?_cons_succ] at c7'
               have RN : Hid (RInv 111 w Bd w.heap.size X g key r2 (k + 1) (w7.setCell ⟨X, 1, none⟩ (.slice A7 (k + 1) c7)) A7 c7) := Lib.hid ⟨by rw [HV2.out]; exact (R6.out.belowC B7.out (by omega) (by omega)).above (grownBy_setCell w7 X 1 _) (by omega) hBX,
                 by rw [HV1.out]; exact O7.out.kept (grownBy_setCell w7 X 1 _) (by omega), X7.out.set_ 1 _, (RR6.out.below B7.out (by omega)).grown (grownBy_setCell w7 X 1 _) (by intro q; injection q with q; omega),
                 below_set (B6.out.trans (B7.out.mono (by omega))) (Nat.le_trans B6.out.size B7.out.size) (by omega) _ _, by have := S6.out; have := B7.out.size; simp; omega⟩
               clear h7 hg7)
            | (go_simp
               go_at_call 69
               refine (u32I_any (B := Bd) g _ _ RDD.out).mono ?_
               rw [HQ.out]
               rintro e w6 ⟨rfl, q6, g6⟩
               dsimp only at *
               have R6 := Lib.hid q6
               have OW6 := Lib.hid (OWD.out.kept g6 (by omega))
               have X6 := Lib.hid (XD.out.grown g6 (by intro q; injection q with q; omega))
               have RR6 := Lib.hid (RD.out.grown g6 (by intro q; injection q with q; omega))
               have B6 := Lib.hid (below_grown BD.out g6 BD.out.size (by omega))
               have S6 : Hid (X + 1 ≤ w6.heap.size) := Lib.hid (Nat.le_trans SD.out g6.size)
               have hx6 : w6.cell? ⟨X, 1, none⟩ = some (.slice A3 k c3) := by
                 have := X6.out.cell 1
                 simpa using this
               have hx6a : (w6.alloc (.cells #[.int .i32 (ItemM.i32 m)] 21)).cell? ⟨X, 1, none⟩ = some (.slice A3 k c3) := by
                 have := (X6.out.alloc (.cells #[.int .i32 (ItemM.i32 m)] 21)).cell 1
                 simpa using this
               clear q6 g6))
          all_goals go_wp2
          all_goals refine ⟨⟨k + 1, A7, c7, by go_num, by omega, RN.out⟩, ?_⟩
          all_goals (simp [RowKit.intOf]; omega)
        · obtain rfl : k = n := by omega
          obtain ⟨T, hT⟩ : ∃ q, (ItemM.vecs k r2).2.text 1024 = q := ⟨_, rfl⟩
          obtain ⟨s, r4⟩ := T
          rw [hT] at HF
          have HT := Lib.hid hT
          have hlen := HI.out.own.len
          have HL := Lib.hid hlen
          clear hT hlen
          go_wp2_with fail
          refine (textI_any (B := Bd) g _ 1024 wr HI.out.rd (by omega) (by omega)).mono ?_
          rw [HT.out]
          rintro e w5 ⟨A5, n5, c5, rfl, hn5, o5, q5, g5⟩
          dsimp only at *
          have hX5 := HI.out.x.grown g5 (by intro q; injection q with q; omega)
          have f2 := hX5.frozen 2
          have c2 := hX5.cell 2
          simp only [List.getElem?_toArray, List.getElem?_cons_zero, List.getElem?_cons_succ] at c2
          have hR5 := HI.out.r.grown g5 (by intro q; injection q with q; omega)
          have hv5 := HI.out.own.kept g5 (by omega)
          have hb5 := below_grown HI.out.bel g5 HI.out.bel.size (by omega)
          have hs5 := HI.out.size
          have gg := grownBy_setCell w5 X 2 (.slice A5 n5 c5)
          have X6 := Lib.hid (hX5.set_ 2 (.slice A5 n5 c5))
          have R6 := Lib.hid (hR5.grown gg (by intro q; injection q with q; omega))
          have V6 := Lib.hid (hv5.kept gg (by omega))
          have T6 := Lib.hid (o5.kept gg (by omega))
          have B6 := Lib.hid (below_grown hb5 gg hb5.size (by omega))
          have Q6 := Lib.hid (q5.above gg (by omega) hBX)
          have S6 : Hid (X + 1 ≤ wr.heap.size) := Lib.hid hs5
          clear q5 o5 g5 hX5 hR5 hv5 hb5 gg HI hs5
          have HM : Hid ((if k = 0 ∨ 4096 < k then 9 else if 1024 < n5 then 3 else 0) = ItemM.may ⟨key, (ItemM.vecs k r2).1, s⟩) := Lib.hid (by unfold ItemM.may; dsimp only; rw [HL.out, hn5.out])
          go_wp2_with fail
          have c0 := X6.out.cell 0
          have c1 := X6.out.cell 1
          have c2 := X6.out.cell 2
          simp only [List.setIfInBounds_toArray, List.set_cons_succ, List.set_cons_zero, List.getElem?_toArray, List.getElem?_cons_zero, List.getElem?_cons_succ] at c0 c1 c2
          generalize w5.setCell ⟨X, 2, none⟩ (.slice A5 n5 c5) = w6 at *
          refine (err_any g r4 w6 Q6.out.at_).mono ?_
          rintro e w7 ⟨rfl, rfl⟩
          by_cases he : r4.e = 0
          · have hee : ((r4.e : Int) == 0) = true := beq_iff_eq.2 (by omega)
            go_wp2_with fail
            refine (left_any g r4 w6 Q6.out.at_).mono ?_
            rintro e w7 ⟨rfl, rfl⟩
            by_cases hl : r4.l = []
            · have hll : decide ((0 : Int) < (r4.l.length : Int)) = false := decide_eq_false (by rw [hl]; simp)
              go_wp2_with fail
              refine (may_any (key : Int) A3 A5 k c3 n5 c5 w6 (by omega) (by have := T6.out.le; have := hn5.out; unfold maxLen at *; omega)).mono ?_
              rw [HM.out]
              rintro e w7 ⟨rfl, hb7⟩
              have BB := Lib.hid (below_step B6.out hb7 (Nat.le_refl _))
              have R7 := Lib.hid (R6.out.below hb7 R6.out.lt)
              obtain ⟨mv, hmv⟩ : ∃ m, ItemM.may ⟨key, (ItemM.vecs k r2).1, s⟩ = m := ⟨_, rfl⟩
              rw [hmv]
              by_cases hm0 : mv = 0
              · have hq : ((mv : Int) == 0) = true := beq_iff_eq.2 (by omega)
                have HN : Hid (X0 = some ⟨key, (ItemM.vecs k r2).1, s⟩) := Lib.hid (by rw [HF.out]; unfold ItemM.fin; rw [if_neg (by rintro (h | h | h); exact h he; exact h hl; exact h (hmv.trans hm0))])
                have d0 := cell_below hb7 c0
                have d1 := cell_below hb7 c1
                have d2 := cell_below hb7 c2
                have V7 := Lib.hid (V6.out.below hb7)
                have T7 := Lib.hid (T6.out.below hb7)
                have f0 := R7.out.frozen 0
                have f1 := R7.out.frozen 1
                have f2 := R7.out.frozen 2
                have c0 := R7.out.cell 0
                have c1 := R7.out.cell 1
                have c2 := R7.out.cell 2
                simp only [List.getElem?_toArray, List.getElem?_cons_zero, List.getElem?_cons_succ] at c0 c1 c2
                go_wp2
                refine ret_cell rfl w.heap.size #[.int .u64 (key : Int), .slice A3 k c3, .slice A5 n5 c5] _ rfl (((R7.out.set_ 0 _).set_ 1 _).set_ 2 _) Try.underlying30 rfl (by kernel_rfl) rfl ?_
                rw [HN.out]
                have V8 := ((V7.out.kept (grownBy_setCell w7 w.heap.size 0 (.int .u64 (key : Int))) (by omega)).kept (grownBy_setCell _ w.heap.size 1 (.slice A3 k c3)) (by omega)).kept (grownBy_setCell _ w.heap.size 2 (.slice A5 n5 c5)) (by omega)
                have T8 := ((T7.out.kept (grownBy_setCell w7 w.heap.size 0 (.int .u64 (key : Int))) (by have := S6.out; omega)).kept (grownBy_setCell _ w.heap.size 1 (.slice A3 k c3)) (by have := S6.out; omega)).kept (grownBy_setCell _ w.heap.size 2 (.slice A5 n5 c5)) (by have := S6.out; omega)
                exact ⟨A3, k, c3, A5, n5, c5, rfl, HL, hn5, V8.base_ (by omega), T8.base_ (by have := S6.out; omega), below_set (below_set (below_set BB.out BB.out.size (Nat.le_refl _) _ _) (by simpa using BB.out.size) (Nat.le_refl _) _ _) (by simpa using BB.out.size) (Nat.le_refl _) _ _⟩
              · have hq : ((mv : Int) == 0) = false := beq_eq_false_iff_ne.2 (by omega)
                have HN : Hid (X0 = none) := Lib.hid (by rw [HF.out]; unfold ItemM.fin; rw [if_pos (.inr (.inr (by rw [hmv]; exact hm0)))])
                have d0 := cell_below hb7 c0
                have d1 := cell_below hb7 c1
                have d2 := cell_below hb7 c2
                clear c0 c1 c2
                have f0 := R7.out.frozen 0
                have f1 := R7.out.frozen 1
                have f2 := R7.out.frozen 2
                have c0 := R7.out.cell 0
                have c1 := R7.out.cell 1
                have c2 := R7.out.cell 2
                simp only [List.getElem?_toArray, List.getElem?_cons_zero, List.getElem?_cons_succ] at c0 c1 c2
                go_wp2
                refine ret_cell rfl w.heap.size #[.int .u64 0, .slice none 0 0, .slice none 0 0] _ rfl (((R7.out.set_ 0 _).set_ 1 _).set_ 2 _) Try.underlying30 rfl (by kernel_rfl) rfl ?_
                rw [HN.out]
                exact ⟨rfl, below_set (below_set (below_set BB.out BB.out.size (Nat.le_refl _) _ _) (by simpa using BB.out.size) (Nat.le_refl _) _ _) (by simpa using BB.out.size) (Nat.le_refl _) _ _⟩
            · have hll2 : (0 : Int) < (r4.l.length : Int) := by have := List.length_pos_iff.2 hl; omega
              have hll : decide ((0 : Int) < (r4.l.length : Int)) = true := decide_eq_true hll2
              have hll3 : 0 < r4.l.length := by omega
              have HN : Hid (X0 = none) := Lib.hid (by rw [HF.out]; unfold ItemM.fin; rw [if_pos (.inr (.inl hl))])
              clear c0 c1 c2
              have f0 := R6.out.frozen 0
              have f1 := R6.out.frozen 1
              have f2 := R6.out.frozen 2
              have c0 := R6.out.cell 0
              have c1 := R6.out.cell 1
              have c2 := R6.out.cell 2
              simp only [List.getElem?_toArray, List.getElem?_cons_zero, List.getElem?_cons_succ] at c0 c1 c2
              go_wp2
              refine ret_cell rfl w.heap.size #[.int .u64 0, .slice none 0 0, .slice none 0 0] _ rfl (((R6.out.set_ 0 _).set_ 1 _).set_ 2 _) Try.underlying30 rfl (by kernel_rfl) rfl ?_
              rw [HN.out]
              exact ⟨rfl, below_set (below_set (below_set B6.out B6.out.size (Nat.le_refl _) _ _) (by simpa using B6.out.size) (Nat.le_refl _) _ _) (by simpa using B6.out.size) (Nat.le_refl _) _ _⟩
          · have hee : ((r4.e : Int) == 0) = false := beq_eq_false_iff_ne.2 (by omega)
            have HN : Hid (X0 = none) := Lib.hid (by rw [HF.out]; unfold ItemM.fin; rw [if_pos (.inl he)])
            clear c0 c1 c2
            have f0 := R6.out.frozen 0
            have f1 := R6.out.frozen 1
            have f2 := R6.out.frozen 2
            have c0 := R6.out.cell 0
            have c1 := R6.out.cell 1
            have c2 := R6.out.cell 2
            simp only [List.getElem?_toArray, List.getElem?_cons_zero, List.getElem?_cons_succ] at c0 c1 c2
            go_wp2
            refine ret_cell rfl w.heap.size #[.int .u64 0, .slice none 0 0, .slice none 0 0] _ rfl (((R6.out.set_ 0 _).set_ 1 _).set_ 2 _) Try.underlying30 rfl (by kernel_rfl) rfl ?_
            rw [HN.out]
            exact ⟨rfl, below_set (below_set (below_set B6.out B6.out.size (Nat.le_refl _) _ _) (by simpa using B6.out.size) (Nat.le_refl _) _ _) (by simpa using B6.out.size) (Nat.le_refl _) _ _⟩
end Go.Proofs.Ytaadfalklddhcaa
