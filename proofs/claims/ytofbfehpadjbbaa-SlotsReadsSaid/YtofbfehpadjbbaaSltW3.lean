/-
  A copy of a slotted body.
  Conditions: the lists lie in memory; their lengths are bounded.
-/
import Derived.Test.YtofbfehpadjbbaaSltW2
import Derived.Deep.Cut
import Derived.Deep.RegionHeld3
import Derived.Deep.RegionHeldLaw
import Derived.Lib.BufferOwn
import Derived.Laws.Rows
namespace Go.Proofs.Ytofbfehpadjbbaa
open Go.RowKit Go.Sort Go.Lib
set_option linter.unusedVariables false
def OwnLs (w : World) (base : Nat) (D : Option Addr) (nD cD : Nat) (ps : List Sl) : Prop := w.ownsRow base 27 1 (.slice D nD cD) nD (ps.map Sl.val)
/-- A slotted body whose lists are the call's own. -/
structure OwnSlt (w : World) (base : Nat) (A : Option Addr) (nF cA : Nat) (D : Option Addr) (nD cD : Nat) (s : Slt) : Prop where
  fu : OwnF w base A nF cA s.full
  li : ∃ ps : List Sl, ps.map Sl.l = s.data ∧ OwnLs w base D nD cD ps ∧ ∀ p ∈ ps, p.l.length = p.n ∧ Row w p.A (bs p.l) ∧ (p.l = [] ∨ ∀ a, p.A = some a → (base ≤ a.block ∧ a.block < w.heap.size) ∧ (∀ x, A = some x → a.block ≠ x.block) ∧ (∀ x, D = some x → a.block ≠ x.block))
  ap : ∀ a d, A = some a → D = some d → a.block ≠ d.block
theorem OwnLs.le {w : World} {base nD cD : Nat} {D : Option Addr} {ps : List Sl} (h : OwnLs w base D nD cD ps) : nD ≤ cD := by
  rcases h.2 with ⟨hv, hn⟩ | ⟨g, cap, cur, hv, _, _, h1, h2, _⟩
  · injection hv with _ e1 e2; omega
  · injection hv with _ e1 e2; subst e2; omega
theorem OwnSlt.at_ {w : World} {base nF cA nD cD : Nat} {A D : Option Addr} {s : Slt} (h : OwnSlt w base A nF cA D nD cD s) : SltAt w A nF cA D nD cD s := by
  obtain ⟨ps, h1, h2, h3⟩ := h.li
  refine ⟨h.fu.len, ?_, h.fu.le.1, h2.le, h.fu.row, ps, h1, Row.of_own h2, fun p hp => ⟨(h3 p hp).2.1, (h3 p hp).1⟩⟩
  have := h2.1
  rw [List.length_map] at this
  rw [← h1, List.length_map]; omega
theorem info_sl : (Try.prog.info? 27).map (fun i => (i.zero, i.size, i.bytes)) = some (some (.slice none 0 0), 1, 24) := by kernel_rfl
theorem nils_made (n : Nat) : madeCells #[Value.slice none 0 0] n = (List.replicate n (Value.slice none 0 0)).toArray := by
  apply Array.ext'
  rw [toList_madeCells_one]
theorem run_mk (w : World) (n : Nat) (hn : n ≤ 1000000) : (Instr.makeSlice 24 (.int .i64 (n : Int)) (.int .i64 (n : Int))).run Try.prog w = .ok (.slice (some ⟨w.heap.size, 0, none⟩) n n) (w.alloc (.cells (List.replicate n (Value.slice none 0 0)).toArray 27)) := by
  obtain ⟨i0, hi0, hz0, hz1, hz2⟩ := info_parts info_sl
  have hr := run_make (P := Try.prog) w 24 27 i0 _ Try.underlying24 hi0 hz0 .i64 .i64 (n : Int) (n : Int) (by omega) (Int.le_refl _) (by rw [hz2]; omega) (by omega)
  rw [hz1, Nat.mul_one, Int.toNat_natCast, show (Value.slice none 0 0).cells = #[Value.slice none 0 0] from rfl, nils_made] at hr
  exact hr
theorem OwnF.base_ {w : World} {base b n c : Nat} {A : Option Addr} {l : List Bool} (h : OwnF w base A n c l) (hb : b ≤ base) : OwnF w b A n c l := by
  refine ⟨h.1, ?_⟩
  rcases h.2 with hn | ⟨g, cap, cur, e, hb', rest⟩
  · exact .inl hn
  · exact .inr ⟨g, cap, cur, e, Nat.le_trans hb hb', rest⟩
theorem OwnF.alloc {w : World} {base n c : Nat} {A : Option Addr} {l : List Bool} (h : OwnF w base A n c l) (o : Obj) : OwnF (w.alloc o) base A n c l := World.ownsRow.alloc h o
theorem OwnF.set_far {w : World} {base n c : Nat} {A : Option Addr} {l : List Bool} (h : OwnF w base A n c l) (g i : Nat) (v : Value) (hg : ∀ a, A = some a → a.block ≠ g) : OwnF (w.setCell ⟨g, i, none⟩ v) base A n c l := h.kept (grownBy_setCell w g i v) (fun a ha q => by injection q with q; exact hg a ha q.symm)
theorem below_al {V X : World} (h : Below V.heap.size V X) (o : Obj) : Below V.heap.size V (X.alloc o) := h.alloc h.size o
theorem below_st {V X : World} (h : Below V.heap.size V X) {p : Addr} (hp : V.heap.size ≤ p.block) (v : Value) : Below V.heap.size V (X.setCell p v) := by
  have h2 := h.size
  refine ⟨h.os, h.tape, h.output, by simpa using h2, fun i hi => ?_⟩
  rw [Below.heap_setCell X p v i (by omega)]; exact h.block i hi
theorem below_dr {V X : World} (h : Below V.heap.size V X) : Below V.heap.size V X.drew := ⟨h.os, h.tape, h.output, h.size, h.block⟩
/-- What stands behind the copy's first statement. -/
structure Made1 (s : Slt) (nF nD : Nat) (V : World) (G gD : Nat) (A' : Option Addr) (cA' : Nat) (wc : World) : Prop where
  bg : Blk wc G 26 #[.int .u8 (s.kind : Int), .int .u32 (s.next : Int), .slice A' nF cA', .slice (some ⟨gD, 0, none⟩) nD nD]
  fu : OwnF wc V.heap.size A' nF cA' s.full
  bd : Blk wc gD 27 (Array.replicate nD (Value.slice none 0 0))
  ne : G ≠ gD
  na : ∀ a, A' = some a → a.block ≠ G ∧ a.block ≠ gD
  lg : V.heap.size ≤ G
  ld : V.heap.size ≤ gD
  bel : Below V.heap.size V wc
/-- A return whose only result lies in a block. -/
theorem ret_cell1 {P : Program} {fn : Func} {R : Ending → World → Prop} {a : Act} {w : World} {p : Tmp} {ty : TypeId} (h : fn.results = #[.cell p ty]) (g : Nat) (cs : Array Value) (d : TypeDesc)
    (hp : a.tmps.getD p undef = .pointer (some ⟨g, 0, none⟩)) (hB : Blk w g ty cs) (hu : P.underlying ty = some d) (hd : (match d with | .struct _ | .array _ _ => true | _ => false) = true) (hi : (P.info? ty).map (·.size) = some cs.size)
    (hdf : a.defers = []) (hR : R (.returned (.agg cs)) w) : bodyPost P fn R .ret a w :=
  bodyPost_ret (results_cell_row h a.tmps w g ty cs (0, 0) d hp hB hu hd hi) hdf hR
/-- What holds in the copy's loop. -/
structure OwnInv (s : Slt) (nF nD : Nat) (V wc : World) (G gD : Nat) (A' : Option Addr) (cA' q : Nat) (xs : List Sl) (wr : World) : Prop where
  bg : Blk wr G 26 #[.int .u8 (s.kind : Int), .int .u32 (s.next : Int), .slice A' nF cA', .slice (some ⟨gD, 0, none⟩) nD nD]
  fu : OwnF wr V.heap.size A' nF cA' s.full
  bd : Blk wr gD 27 (xs.map Sl.val).toArray
  xl : xs.length = nD
  li : xs.map Sl.l = s.data.take q ++ List.replicate (nD - q) []
  each : ∀ p ∈ xs, p.l.length = p.n ∧ Row wr p.A (bs p.l) ∧ (p.l = [] ∨ ∀ a, p.A = some a → wc.heap.size ≤ a.block ∧ a.block < wr.heap.size)
  bel : Below V.heap.size V wr
  wcs : wc.heap.size ≤ wr.heap.size
theorem OwnInv.start {s : Slt} {nF nD : Nat} {V wc : World} {G gD : Nat} {A' : Option Addr} {cA' : Nat} (h : Made1 s nF nD V G gD A' cA' wc) (hn : s.data.length = nD) : OwnInv s nF nD V wc G gD A' cA' 0 (List.replicate nD ⟨none, 0, 0, []⟩) wc := by
  refine ⟨h.bg, h.fu, ?_, by simp, by simp, fun p hp => ?_, h.bel, Nat.le_refl _⟩
  · have e : ((List.replicate nD (⟨none, 0, 0, []⟩ : Sl)).map Sl.val).toArray = Array.replicate nD (Value.slice none 0 0) := by
      apply Array.ext'
      simp [Sl.val]
    rw [e]; exact h.bd
  · obtain rfl := List.eq_of_mem_replicate hp
    exact ⟨rfl, Row.nil _ _, .inl rfl⟩
theorem OwnInv.next {s : Slt} {nF nD : Nat} {V wc wr wb : World} {G gD : Nat} {A' : Option Addr} {cA' q : Nat} {xs : List Sl} (h : OwnInv s nF nD V wc G gD A' cA' q xs wr) (m : Made1 s nF nD V G gD A' cA' wc) {x : List UInt8} (hx : s.data[q]? = some x)
    {Bq : Option Addr} {nq cq : Nat} (hn : x.length = nq) (hdl : s.data.length = nD) (ho : Own wb wr.heap.size Bq cq x) (hb : Below wr.heap.size wr wb) :
    OwnInv s nF nD V wc G gD A' cA' (q + 1) (xs.set q ⟨Bq, nq, cq, x⟩) (wb.setCell ⟨gD, q, none⟩ (.slice Bq nq cq)) := by
  have gg := grownBy_setCell wb gD q (.slice Bq nq cq)
  have hld := m.ld
  have hlg := m.lg
  have hV := h.bel.size
  have hws := h.wcs
  have hbs := hb.size
  have hgs := gg.size
  have hgD : gD < wc.heap.size := m.bd.lt
  have hqn : q < nD := by
    have := (List.getElem?_eq_some_iff.1 hx).1
    omega
  have keepR : ∀ (A2 : Option Addr) (l2 : List UInt8), Row wr A2 (bs l2) → (l2 = [] ∨ ∀ a, A2 = some a → wc.heap.size ≤ a.block ∧ a.block < wr.heap.size) → Row (wb.setCell ⟨gD, q, none⟩ (.slice Bq nq cq)) A2 (bs l2) := by
    intro A2 l2 hr hl
    rcases hl with rfl | hl
    · exact Row.nil _ _
    · rcases hr with hr | ⟨b, o, e, hc⟩
      · exact .inl hr
      · refine .inr ⟨b, o, e, fun j u hu => ?_⟩
        have h1 := hl _ e
        have h2 := cell_below hb (hc j u hu)
        exact gg.cell h2 (by simp; have := h1.1; have h3 : wc.heap.size ≤ b := h1.1; omega)
  refine ⟨?_, ?_, ?_, by rw [List.length_set]; exact h.xl, ?_, ?_, ?_, by omega⟩
  · exact (h.bg.below hb h.bg.lt).far (by have := m.ne; exact this) _
  · exact (h.fu.below hb).kept gg (fun a ha e => by injection e with e; exact (m.na a ha).2 e.symm)
  · have h1 := (h.bd.below hb h.bd.lt).set_ q (.slice Bq nq cq)
    have e : (xs.map Sl.val).toArray.setIfInBounds q (.slice Bq nq cq) = ((xs.set q ⟨Bq, nq, cq, x⟩).map Sl.val).toArray := by
      rw [List.map_set, List.setIfInBounds_toArray]; rfl
    rw [e] at h1
    exact h1
  · rw [List.map_set, h.li]
    refine List.ext_getElem? fun j => ?_
    have hq' : q < s.data.length := (List.getElem?_eq_some_iff.1 hx).1
    by_cases e : j = q
    · subst e
      rw [List.getElem?_set_self (by simp; omega), List.getElem?_append_left (by rw [List.length_take]; omega), List.getElem?_take_of_lt (by omega), hx]
    · rw [List.getElem?_set_ne (fun q' => e q'.symm)]
      by_cases e2 : j < q
      · rw [List.getElem?_append_left (by rw [List.length_take]; omega), List.getElem?_append_left (by rw [List.length_take]; omega), List.getElem?_take_of_lt e2, List.getElem?_take_of_lt (by omega)]
      · rw [List.getElem?_append_right (by rw [List.length_take]; omega), List.getElem?_append_right (by rw [List.length_take]; omega), List.length_take, List.length_take, List.getElem?_replicate, List.getElem?_replicate]
        by_cases e3 : j < nD
        · rw [if_pos (by omega), if_pos (by omega)]
        · rw [if_neg (by omega), if_neg (by omega)]
  · intro p hp
    rcases List.mem_or_eq_of_mem_set hp with hp | rfl
    · obtain ⟨h1, h2, h3⟩ := h.each p hp
      refine ⟨h1, keepR _ _ h2 h3, h3.imp id fun h4 a ha => ?_⟩
      have := h4 a ha
      omega
    · refine ⟨hn, ?_, .inr fun a ha => ?_⟩
      · have hr := ho.row
        rcases hr with hr | ⟨b, o, e, hc⟩
        · exact .inl hr
        · refine .inr ⟨b, o, e, fun j u hu => ?_⟩
          have h1 : wr.heap.size ≤ b := by
            subst e
            have h9 := World.ownsRow.lt ho b rfl
            exact h9.1
          exact gg.cell (hc j u hu) (by simp; omega)
      · subst ha
        have h9 := World.ownsRow.lt ho a.block rfl
        omega
  · exact (below_step h.bel hb (Nat.le_refl _)).grown gg (by omega) (fun k hk => by injection hk with hk; omega) |> fun h => h
/-- What the copy is. -/
theorem OwnInv.fin {s : Slt} {nF nD : Nat} {V wc wr : World} {G gD : Nat} {A' : Option Addr} {cA' : Nat} {xs : List Sl} (h : OwnInv s nF nD V wc G gD A' cA' nD xs wr) (m : Made1 s nF nD V G gD A' cA' wc) (hn : s.data.length = nD) (hmD : nD ≤ 1000000) : OwnSlt wr V.heap.size A' nF cA' (some ⟨gD, 0, none⟩) nD nD s := by
  have hli := h.li
  rw [Nat.sub_self, List.replicate_zero, List.append_nil, List.take_of_length_le (by omega)] at hli
  refine ⟨h.fu, ⟨xs, hli, ⟨by rw [List.length_map, h.xl]; omega, .inr ⟨gD, nD, _, rfl, m.ld, h.bd, Nat.le_refl _, by unfold maxLen; omega, by simp [h.xl], by rw [Nat.mul_one]; simp; exact List.take_of_length_le (by rw [List.length_map, h.xl]; exact Nat.le_refl _)⟩⟩, fun p hp => ?_⟩, ?_⟩
  · obtain ⟨h1, h2, h3⟩ := h.each p hp
    have hwV := m.bel.size
    refine ⟨h1, h2, h3.imp id fun h4 a ha => ⟨⟨by have := (h4 a ha).1; omega, (h4 a ha).2⟩, fun y hy => ?_, fun y hy => ?_⟩⟩
    · have := (m.fu.blk hy).2
      have := (h4 a ha).1
      omega
    · injection hy with hy
      rw [← hy]
      have : gD < wc.heap.size := m.bd.lt
      have := (h4 a ha).1
      show a.block ≠ gD
      omega
  · intro a d ha hd
    injection hd with hd
    rw [← hd]
    exact (m.na a ha).2
theorem row_set {w : World} {A : Option Addr} {xs : List Value} (h : Row w A xs) (g i : Nat) (v : Value) (hg : ∀ a, A = some a → a.block ≠ g) : Row (w.setCell ⟨g, i, none⟩ v) A xs := by
  rcases h with h | ⟨b, o, e, hc⟩
  · exact .inl h
  · refine .inr ⟨b, o, e, fun j u hu => ?_⟩
    have := hg _ e
    exact (grownBy_setCell w g i v).cell (hc j u hu) (by simp; exact fun q => this q)
/-- A store below what is the call's own. -/
theorem OwnSlt.far {w : World} {base nF cA nD cD : Nat} {A D : Option Addr} {s : Slt} (h : OwnSlt w base A nF cA D nD cD s) (g i : Nat) (v : Value) (hg : g < base) : OwnSlt (w.setCell ⟨g, i, none⟩ v) base A nF cA D nD cD s := by
  have gg := grownBy_setCell w g i v
  obtain ⟨ps, h1, h2, h3⟩ := h.li
  refine ⟨h.fu.kept gg (fun a ha q => by injection q with q; have := (h.fu.blk ha).1; omega), ⟨ps, h1, ?_, fun p hp => ?_⟩, h.ap⟩
  · refine World.ownsRow.kept h2 gg ?_
    rcases h2.2 with ⟨hv, hn⟩ | ⟨g', cap, cur, hv, hb, _⟩
    · left; injection hv with e; rw [e]; rfl
    · right; injection hv with e; rw [e]; simp only [Value.ownBlock]; intro q; injection q with q; omega
  · obtain ⟨p1, p2, p3⟩ := h3 p hp
    refine ⟨p1, ?_, p3.imp id fun h4 a ha => ⟨⟨(h4 a ha).1.1, Nat.lt_of_lt_of_le (h4 a ha).1.2 gg.size⟩, (h4 a ha).2⟩⟩
    rcases p3 with p3 | p3
    · rw [p3]; exact Row.nil _ _
    · exact row_set p2 g i v (fun a ha => by have := (p3 a ha).1.1; omega)
theorem OwnSlt.base_ {w : World} {base b nF cA nD cD : Nat} {A D : Option Addr} {s : Slt} (h : OwnSlt w base A nF cA D nD cD s) (hb : b ≤ base) : OwnSlt w b A nF cA D nD cD s := by
  obtain ⟨ps, h1, h2, h3⟩ := h.li
  refine ⟨h.fu.base_ hb, ⟨ps, h1, ?_, fun p hp => ⟨(h3 p hp).1, (h3 p hp).2.1, (h3 p hp).2.2.imp id fun h4 a ha => ⟨⟨Nat.le_trans hb (h4 a ha).1.1, (h4 a ha).1.2⟩, (h4 a ha).2⟩⟩⟩, h.ap⟩
  refine ⟨h2.1, ?_⟩
  rcases h2.2 with hn | ⟨g, cap, cur, e, hb', rest⟩
  · exact .inl hn
  · exact .inr ⟨g, cap, cur, e, Nat.le_trans hb hb', rest⟩
set_option maxRecDepth 100000 in
set_option maxHeartbeats 1000000 in
theorem own_any (s : Slt) (A : Option Addr) (nF cA : Nat) (D : Option Addr) (nD cD : Nat) (w : World) (hs : SltAt w A nF cA D nD cD s) (hmF : nF ≤ 1000000) (hmD : nD ≤ 1000000) (hmx : ∀ x ∈ s.data, x.length ≤ 1000000) :
    Calls Try.prog 32 #[.agg #[.int .u8 (s.kind : Int), .int .u32 (s.next : Int), .slice A nF cA, .slice D nD cD]] w
      fun e w' => ∃ A' cA' D' cD', e = .returned (.agg #[.int .u8 (s.kind : Int), .int .u32 (s.next : Int), .slice A' nF cA', .slice D' nD cD']) ∧ OwnSlt w' w.heap.size A' nF cA' D' nD cD' s ∧ Below w.heap.size w w' := by
  have HS := Lib.hid hs
  have CF : Hid (∀ w', Below w.heap.size w w' → Calls Try.prog 45 #[.slice A nF cA] w' (NewF s.full w')) := Lib.hid fun w' hb => clonef_any A nF cA s.full w' (hs.below hb).rf hs.lf (by omega)
  clear hs
  go_enter Try.func32, Try.ntmps32
  go_upto_region 1 with fail
  have hB0 := (Blk.new w 26 #[.int .u8 (s.kind : Int), .int .u32 (s.next : Int), .slice A nF cA, .slice D nD cD]).alloc (.cells #[.int .u8 0, .int .u32 0, .slice none 0 0, .slice none 0 0] 26)
  have hB1 : Blk ((w.alloc (.cells #[.int .u8 (s.kind : Int), .int .u32 (s.next : Int), .slice A nF cA, .slice D nD cD] 26)).alloc (.cells #[.int .u8 0, .int .u32 0, .slice none 0 0, .slice none 0 0] 26)) (w.heap.size + 1) 26 #[.int .u8 0, .int .u32 0, .slice none 0 0, .slice none 0 0] := by
    have := Blk.new (w.alloc (.cells #[.int .u8 (s.kind : Int), .int .u32 (s.next : Int), .slice A nF cA, .slice D nD cD] 26)) 26 #[.int .u8 0, .int .u32 0, .slice none 0 0, .slice none 0 0]
    simpa using this
  have hVs : ((w.alloc (.cells #[.int .u8 (s.kind : Int), .int .u32 (s.next : Int), .slice A nF cA, .slice D nD cD] 26)).alloc (.cells #[.int .u8 0, .int .u32 0, .slice none 0 0, .slice none 0 0] 26)).heap.size = w.heap.size + 2 := by simp
  have hVb : Below w.heap.size w ((w.alloc (.cells #[.int .u8 (s.kind : Int), .int .u32 (s.next : Int), .slice A nF cA, .slice D nD cD] 26)).alloc (.cells #[.int .u8 0, .int .u32 0, .slice none 0 0, .slice none 0 0] 26)) := ((Below.refl w.heap.size w).alloc (Nat.le_refl _) _).alloc (by simp) _
  generalize ((w.alloc (.cells #[.int .u8 (s.kind : Int), .int .u32 (s.next : Int), .slice A nF cA, .slice D nD cD] 26)).alloc (.cells #[.int .u8 0, .int .u32 0, .slice none 0 0, .slice none 0 0] 26)) = V at *
  have HB0 := Lib.hid hB0
  have HB1 := Lib.hid hB1
  have HVB := Lib.hid hVb
  have HVS := Lib.hid hVs
  have KC : Hid (∀ w', Below V.heap.size V w' → w'.cell? ⟨w.heap.size, 0, none⟩ = some (.int .u8 (s.kind : Int)) ∧ w'.cell? ⟨w.heap.size, 1, none⟩ = some (.int .u32 (s.next : Int)) ∧ w'.cell? ⟨w.heap.size, 2, none⟩ = some (.slice A nF cA) ∧ w'.cell? ⟨w.heap.size, 3, none⟩ = some (.slice D nD cD)) := Lib.hid (by
    intro w' hb
    have h := HB0.out.below hb HB0.out.lt
    have d0 := h.cell 0
    have d1 := h.cell 1
    have d2 := h.cell 2
    have d3 := h.cell 3
    simp only [List.getElem?_toArray, List.getElem?_cons_zero, List.getElem?_cons_succ] at d0 d1 d2 d3
    exact ⟨d0, d1, d2, d3⟩)
  clear hB0 hB1 hVb hVs
  go_cut [3] from 6 (fun pv wc => ∃ (G gD : Nat) (A' : Option Addr) (cA' : Nat), pv = .pointer (some ⟨G, 0, none⟩) ∧ Made1 s nF nD V G gD A' cA' wc)
  case first =>
    have BV : Hid (Below V.heap.size V V) := Lib.hid (Below.refl _ _)
    have hmk := fun w' => run_mk w' nD hmD
    go_region_held3 (fun w' => w'.cell? ⟨w.heap.size, 0, none⟩ = some (.int .u8 (s.kind : Int)) ∧ w'.cell? ⟨w.heap.size, 1, none⟩ = some (.int .u32 (s.next : Int)) ∧ w'.cell? ⟨w.heap.size, 2, none⟩ = some (.slice A nF cA) ∧ w'.cell? ⟨w.heap.size, 3, none⟩ = some (.slice D nD cD))
      (exact KC.out _ (by repeat (first | exact BV.out | refine below_al ?_ _ | refine below_dr ?_ | refine below_st ?_ (by first | (simp; done) | (simp; omega) | omega) _)))
      (first
        | (go_at_call 45
           refine (CF.out _ (below_step HVB.out (by repeat (first | exact BV.out | refine below_al ?_ _ | refine below_dr ?_ | refine below_st ?_ (by first | (simp; done) | (simp; omega) | omega) _)) (Nat.le_refl _))).mono ?_
           rintro e wa ⟨A', nA, cA', rfl, hnA, oA, bA⟩
           first
             | (have hG : Blk wa (V.heap.size + 1) 26 #[.int .u8 0, .int .u32 0, .slice none 0 0, .slice none 0 0] := by
                  have h := Blk.new (V.alloc (.cells (Array.replicate nD (Value.slice none 0 0)) 27)) 26 #[.int .u8 0, .int .u32 0, .slice none 0 0, .slice none 0 0]
                  have h2 := Blk.below (w := ((V.alloc (.cells (Array.replicate nD (Value.slice none 0 0)) 27)).alloc (.cells #[.int .u8 0, .int .u32 0, .slice none 0 0, .slice none 0 0] 26)).drew) h bA h.lt
                  simpa using h2
                have hM : Blk wa V.heap.size 27 (Array.replicate nD (Value.slice none 0 0)) := by
                  have h := (Blk.new V 27 (Array.replicate nD (Value.slice none 0 0))).alloc (.cells #[.int .u8 0, .int .u32 0, .slice none 0 0, .slice none 0 0] 26)
                  exact Blk.below (w := ((V.alloc (.cells (Array.replicate nD (Value.slice none 0 0)) 27)).alloc (.cells #[.int .u8 0, .int .u32 0, .slice none 0 0, .slice none 0 0] 26)).drew) h bA h.lt
                have lt1 := hM.lt
                have BM := Lib.hid hM
                clear hM
                have z0 := hG.cell 0
                have z1 := hG.cell 1
                have z2 := hG.cell 2
                have z3 := hG.cell 3
                have k0 := hG.frozen 0
                have k1 := hG.frozen 1
                have k2 := hG.frozen 2
                have k3 := hG.frozen 3
                simp only [List.getElem?_toArray, List.getElem?_cons_zero, List.getElem?_cons_succ] at z0 z1 z2 z3
                have lt0 := hG.lt
                have BG := Lib.hid hG
                clear hG)
             | (have hM : Blk wa (V.heap.size + 1) 27 (Array.replicate nD (Value.slice none 0 0)) := by
                  have h := Blk.new (V.alloc (.cells #[.int .u8 0, .int .u32 0, .slice none 0 0, .slice none 0 0] 26)) 27 (Array.replicate nD (Value.slice none 0 0))
                  have h2 := Blk.below (w := ((V.alloc (.cells #[.int .u8 0, .int .u32 0, .slice none 0 0, .slice none 0 0] 26)).alloc (.cells (Array.replicate nD (Value.slice none 0 0)) 27)).drew) h bA h.lt
                  simpa using h2
                have hG : Blk wa V.heap.size 26 #[.int .u8 0, .int .u32 0, .slice none 0 0, .slice none 0 0] := by
                  have h := (Blk.new V 26 #[.int .u8 0, .int .u32 0, .slice none 0 0, .slice none 0 0]).alloc (.cells (Array.replicate nD (Value.slice none 0 0)) 27)
                  exact Blk.below (w := ((V.alloc (.cells #[.int .u8 0, .int .u32 0, .slice none 0 0, .slice none 0 0] 26)).alloc (.cells (Array.replicate nD (Value.slice none 0 0)) 27)).drew) h bA h.lt
                have lt1 := hM.lt
                have BM := Lib.hid hM
                clear hM
                have z0 := hG.cell 0
                have z1 := hG.cell 1
                have z2 := hG.cell 2
                have z3 := hG.cell 3
                have k0 := hG.frozen 0
                have k1 := hG.frozen 1
                have k2 := hG.frozen 2
                have k3 := hG.frozen 3
                simp only [List.getElem?_toArray, List.getElem?_cons_zero, List.getElem?_cons_succ] at z0 z1 z2 z3
                have lt0 := hG.lt
                have BG := Lib.hid hG
                clear hG)
             | (have hG : Blk wa V.heap.size 26 #[.int .u8 0, .int .u32 0, .slice none 0 0, .slice none 0 0] := by
                  have h := Blk.new V 26 #[.int .u8 0, .int .u32 0, .slice none 0 0, .slice none 0 0]
                  exact Blk.below (w := (V.alloc (.cells #[.int .u8 0, .int .u32 0, .slice none 0 0, .slice none 0 0] 26)).drew) h bA h.lt
                have z0 := hG.cell 0
                have z1 := hG.cell 1
                have z2 := hG.cell 2
                have z3 := hG.cell 3
                have k0 := hG.frozen 0
                have k1 := hG.frozen 1
                have k2 := hG.frozen 2
                have k3 := hG.frozen 3
                simp only [List.getElem?_toArray, List.getElem?_cons_zero, List.getElem?_cons_succ] at z0 z1 z2 z3
                have lt0 := hG.lt
                have BG := Lib.hid hG
                clear hG)
             | (have hM : Blk wa V.heap.size 27 (Array.replicate nD (Value.slice none 0 0)) := by
                  have h := Blk.new V 27 (Array.replicate nD (Value.slice none 0 0))
                  exact Blk.below (w := (V.alloc (.cells (Array.replicate nD (Value.slice none 0 0)) 27)).drew) h bA h.lt
                have lt1 := hM.lt
                have BM := Lib.hid hM
                clear hM)
             | (have hV : Below V.drew.heap.size V.drew wa := bA; clear hV)
           have enA : nF = nA := by rw [← hnA.out]; exact HS.out.lf.symm
           subst enA
           have NAF := Lib.hid (fun a ha => oA.blk (a := a) ha)
           have OA := Lib.hid (oA.base_ (Below.size (w := V) (by repeat (first | exact BV.out | refine below_al ?_ _ | refine below_dr ?_ | refine below_st ?_ (by first | (simp; done) | (simp; omega) | omega) _))))
           have BA := Lib.hid bA
           replace BV : Hid (Below V.heap.size V wa) := Lib.hid (below_step (by repeat (first | exact BV.out | refine below_al ?_ _ | refine below_dr ?_ | refine below_st ?_ (by first | (simp; done) | (simp; omega) | omega) _)) bA (Nat.le_refl _))
           have hwa := BV.out.size
           clear oA bA))
    · go_wp2
      go_meet
      refine ⟨wa.heap.size + 1, wa.heap.size, A', cA', rfl, ⟨?_, ?_, ?_, by omega, fun a ha => (by have h9 := NAF.out a ha; simp at h9; constructor <;> omega), by omega, by omega, (by repeat (first | exact BV.out | refine below_al ?_ _ | refine below_dr ?_ | refine below_st ?_ (by first | (simp; done) | (simp; omega) | omega) _))⟩⟩
      · (have h := Blk.new (wa.alloc (.cells (Array.replicate nD (Value.slice none 0 0)) 27)) 26 #[.int .u8 (s.kind : Int), .int .u32 (s.next : Int), .slice A' nF cA', .slice (some ⟨wa.heap.size, 0, none⟩) nD nD]; simpa using h)
      · exact (OA.out.alloc _).alloc _
      · exact (Blk.new wa _ _).alloc _
    · go_wp2
      go_meet
      refine ⟨wa.heap.size, wa.heap.size + 1, A', cA', rfl, ⟨?_, ?_, ?_, by omega, fun a ha => (by have h9 := NAF.out a ha; simp at h9; constructor <;> omega), by omega, by omega, (by repeat (first | exact BV.out | refine below_al ?_ _ | refine below_dr ?_ | refine below_st ?_ (by first | (simp; done) | (simp; omega) | omega) _))⟩⟩
      · exact (Blk.new wa _ _).alloc _
      · exact (OA.out.alloc _).alloc _
      · (have h := Blk.new (wa.alloc (.cells #[.int .u8 (s.kind : Int), .int .u32 (s.next : Int), .slice A' nF cA', .slice (some ⟨wa.heap.size + 1, 0, none⟩) nD nD] 26)) 27 (Array.replicate nD (Value.slice none 0 0)); simpa using h)
    · go_wp2
      go_meet
      refine ⟨wa.heap.size, V.heap.size, A', cA', rfl, ⟨?_, ?_, ?_, by omega, fun a ha => (by have h9 := NAF.out a ha; simp at h9; constructor <;> omega), by omega, by omega, (by repeat (first | exact BV.out | refine below_al ?_ _ | refine below_dr ?_ | refine below_st ?_ (by first | (simp; done) | (simp; omega) | omega) _))⟩⟩
      · exact Blk.new wa _ _
      · exact OA.out.alloc _
      · exact BM.out.alloc _
    · go_wp2
      go_meet
      refine ⟨V.heap.size + 1, V.heap.size, A', cA', rfl, ⟨?_, ?_, ?_, by omega, fun a ha => (by have h9 := NAF.out a ha; simp at h9; constructor <;> omega), by omega, by omega, (by repeat (first | exact BV.out | refine below_al ?_ _ | refine below_dr ?_ | refine below_st ?_ (by first | (simp; done) | (simp; omega) | omega) _))⟩⟩
      · exact (((BG.out.set_ 0 _).set_ 1 _).set_ 2 _).set_ 3 _
      · exact (((OA.out.set_far (V.heap.size + 1) 0 _ (by intro a ha; have h9 := NAF.out a ha; simp at h9; omega)).set_far (V.heap.size + 1) 1 _ (by intro a ha; have h9 := NAF.out a ha; simp at h9; omega)).set_far (V.heap.size + 1) 2 _ (by intro a ha; have h9 := NAF.out a ha; simp at h9; omega)).set_far (V.heap.size + 1) 3 _ (by intro a ha; have h9 := NAF.out a ha; simp at h9; omega)
      · exact ((((BM.out).far (by simp; try omega) _).far (by simp; try omega) _).far (by simp; try omega) _).far (by simp; try omega) _
    · go_wp2
      go_meet
      refine ⟨V.heap.size, wa.heap.size, A', cA', rfl, ⟨?_, ?_, ?_, by omega, fun a ha => (by have h9 := NAF.out a ha; simp at h9; constructor <;> omega), by omega, by omega, (by repeat (first | exact BV.out | refine below_al ?_ _ | refine below_dr ?_ | refine below_st ?_ (by first | (simp; done) | (simp; omega) | omega) _))⟩⟩
      · exact ((((BG.out.set_ 0 _).set_ 1 _).set_ 2 _).set_ 3 _).alloc _
      · exact OwnF.alloc ((((OA.out.set_far V.heap.size 0 _ (by intro a ha; have h9 := NAF.out a ha; simp at h9; omega)).set_far V.heap.size 1 _ (by intro a ha; have h9 := NAF.out a ha; simp at h9; omega)).set_far V.heap.size 2 _ (by intro a ha; have h9 := NAF.out a ha; simp at h9; omega)).set_far V.heap.size 3 _ (by intro a ha; have h9 := NAF.out a ha; simp at h9; omega)) _
      · (have h := Blk.new ((((wa.setCell ⟨V.heap.size, 0, none⟩ (.int .u8 (s.kind : Int))).setCell ⟨V.heap.size, 1, none⟩ (.int .u32 (s.next : Int))).setCell ⟨V.heap.size, 2, none⟩ (.slice A' nF cA')).setCell ⟨V.heap.size, 3, none⟩ (.slice (some ⟨wa.heap.size, 0, none⟩) nD nD)) 27 (Array.replicate nD (Value.slice none 0 0)); simpa using h)
    · go_wp2
      go_meet
      refine ⟨V.heap.size, V.heap.size + 1, A', cA', rfl, ⟨?_, ?_, ?_, by omega, fun a ha => (by have h9 := NAF.out a ha; simp at h9; constructor <;> omega), by omega, by omega, (by repeat (first | exact BV.out | refine below_al ?_ _ | refine below_dr ?_ | refine below_st ?_ (by first | (simp; done) | (simp; omega) | omega) _))⟩⟩
      · exact (((BG.out.set_ 0 _).set_ 1 _).set_ 2 _).set_ 3 _
      · exact (((OA.out.set_far V.heap.size 0 _ (by intro a ha; have h9 := NAF.out a ha; simp at h9; omega)).set_far V.heap.size 1 _ (by intro a ha; have h9 := NAF.out a ha; simp at h9; omega)).set_far V.heap.size 2 _ (by intro a ha; have h9 := NAF.out a ha; simp at h9; omega)).set_far V.heap.size 3 _ (by intro a ha; have h9 := NAF.out a ha; simp at h9; omega)
      · exact ((((BM.out).far (by simp; try omega) _).far (by simp; try omega) _).far (by simp; try omega) _).far (by simp; try omega) _
  case rest =>
    obtain ⟨G, gD, A', cA', rfl, hM⟩ := hcut
    obtain ⟨d0, d1, d2, d3⟩ := KC.out _ hM.bel
    have HM := Lib.hid hM
    have I0 := Lib.hid (OwnInv.start hM HS.out.ld)
    clear hM d0 d1 d2
    have KS : Hid (∀ (w' : World) (i : Nat) (v : Value), w'.cell? ⟨G, 3, none⟩ = some (.slice (some ⟨gD, 0, none⟩) nD nD) → (w'.setCell ⟨gD, i, none⟩ v).cell? ⟨G, 3, none⟩ = some (.slice (some ⟨gD, 0, none⟩) nD nD)) := Lib.hid (by
      intro w' i v h
      exact (grownBy_setCell w' gD i v).cell h (by simp; exact fun q => HM.out.ne q))
    go_wp2
    clear d3
    go_loopw [4, 5, 21] (fun _ _ i wr => ∃ (q : Nat) (xs : List Sl), i = .int .i64 q ∧ q ≤ nD ∧ OwnInv s nF nD V wc G gD A' cA' q xs wr) (fun _ _ i _ => nD - (RowKit.intOf i).toNat)
    case atStart => exact ⟨0, _, rfl, by omega, I0.out⟩
    case round =>
      obtain ⟨q, xs, rfl, hq, hI⟩ := hrel
      have HI := Lib.hid hI
      clear hI
      have B0 := Lib.hid (below_step HVB.out HI.out.bel (Nat.le_refl _))
      by_cases hlt : q < nD
      · obtain ⟨x, hx⟩ : ∃ x, s.data[q]? = some x := ⟨_, List.getElem?_eq_getElem (by rw [HS.out.ld]; omega)⟩
        obtain ⟨g2, o2, Bx, nx, cx, rfl, cd, hxn, hxr⟩ := HS.out.data_get hx
        have cd1 := cell_below B0.out cd
        have HXR := Lib.hid (hxr.below B0.out)
        have hxl := hmx x (List.mem_of_getElem? hx)
        rw [hxn] at hxl
        have HXN := Lib.hid hxn
        have HX := Lib.hid hx
        have KG : Hid (∀ w', Below wr.heap.size wr w' → w'.cell? ⟨G, 3, none⟩ = some (.slice (some ⟨gD, 0, none⟩) nD nD)) := Lib.hid (by
          intro w' hb
          have d := (HI.out.bg.below hb HI.out.bg.lt).cell 3
          simpa using d)
        have BB : Hid (Below wr.heap.size wr wr) := Lib.hid (Below.refl _ _)
        clear cd hxn hxr hx
        go_wp2
        replace BB : Hid (Below wr.heap.size wr wr.drew) := Lib.hid ⟨rfl, rfl, rfl, Nat.le_refl _, fun _ _ => rfl⟩
        go_region_held_law (fun w' => w'.cell? ⟨G, 3, none⟩ = some (.slice (some ⟨gD, 0, none⟩) nD nD))
          (first | exact KG.out _ BB.out | exact KS.out _ _ _ (KG.out _ BB.out))
          (first
            | (go_at_call 29
               refine (clone_len Bx cx nx x _ (HXR.out.below BB.out) HXN.out (by omega)).mono ?_
               rintro e wb ⟨Bq, nq, cq, rfl, hnq, oq, bq⟩
               have OQ := Lib.hid oq
               have BQ := Lib.hid (below_join BB.out bq)
               have hbd := HI.out.bd.below BQ.out HI.out.bd.lt
               have y0 := hbd.cell q
               have y1 := hbd.frozen q
               rw [List.getElem?_toArray, List.getElem?_eq_getElem (by rw [List.length_map, HI.out.xl]; omega)] at y0
               replace BB := BQ
               clear hbd oq bq))
        have HN := Lib.hid (HI.out.next HM.out HX.out hnq.out HS.out.ld OQ.out BQ.out)
        clear y0 y1 KG BB BQ OQ
        go_wp2
        go_roundw
        case rel => exact ⟨q + 1, _, by go_num, by omega, HN.out⟩
        case measure => simp [RowKit.intOf]; omega
      · obtain rfl : nD = q := by omega
        have HF := Lib.hid (HI.out.fin HM.out HS.out.ld hmD)
        have hbg := HI.out.bg
        have z0 := hbg.cell 0
        have z1 := hbg.cell 1
        have z2 := hbg.cell 2
        have z3 := hbg.cell 3
        have hr := HB1.out.below HI.out.bel HB1.out.lt
        have y0 := hr.cell 0
        have y1 := hr.cell 1
        have y2 := hr.cell 2
        have y3 := hr.cell 3
        have k0 := hr.frozen 0
        have k1 := hr.frozen 1
        have k2 := hr.frozen 2
        have k3 := hr.frozen 3
        simp only [List.getElem?_toArray, List.getElem?_cons_zero, List.getElem?_cons_succ] at z0 z1 z2 z3 y0 y1 y2 y3
        have HR := Lib.hid hr
        have hsv := HVS.out
        have hws := HI.out.bel.size
        clear hbg hr HI
        go_wp2
        refine ret_cell1 rfl (w.heap.size + 1) #[.int .u8 (s.kind : Int), .int .u32 (s.next : Int), .slice A' nF cA', .slice (some ⟨gD, 0, none⟩) nD nD] _ rfl ((((HR.out.set_ 0 _).set_ 1 _).set_ 2 _).set_ 3 _) Try.underlying26 rfl (by kernel_rfl) rfl ?_
        refine ⟨A', cA', some ⟨gD, 0, none⟩, nD, rfl, ((((HF.out.far _ 0 _ (by omega)).far _ 1 _ (by omega)).far _ 2 _ (by omega)).far _ 3 _ (by omega)).base_ (by omega), ?_⟩
        exact ((((B0.out.grown (grownBy_setCell _ _ 0 _) B0.out.size (fun k hk => by injection hk with hk; omega)).grown (grownBy_setCell _ _ 1 _) (by simp; exact B0.out.size) (fun k hk => by injection hk with hk; omega)).grown (grownBy_setCell _ _ 2 _) (by simp; exact B0.out.size) (fun k hk => by injection hk with hk; omega)).grown (grownBy_setCell _ _ 3 _) (by simp; exact B0.out.size) (fun k hk => by injection hk with hk; omega))
end Go.Proofs.Ytofbfehpadjbbaa
