/-
  The document's bare reply: what its kind has; whether a reply may be, by the document's word.
  Conditions: the reply's lists lie in memory.
-/
import Derived.Test.YtaadfalklddhcaaZStmT2
import Derived.Test.YtaadfalklddhcaaZStmS2
import Derived.Test.YtaadfalklddhcaaZStmS3
namespace Go.Proofs.Ytaadfalklddhcaa
open Go.RowKit Go.Sort Go.Lib
set_option linter.unusedVariables false
set_option linter.unusedSimpArgs false
/-- The bare reply with where its lists lie. -/
def Rpv.bare (s : Rpv) : Rpv :=
  if s.kind = 1 then ⟨s.kind, s.mark, 0, 0, ⟨StmM.no, none, 0, none, 0⟩, none, 0, [], none, 0, []⟩
  else if s.kind = 2 then ⟨s.kind, 0, s.errno, s.place, ⟨StmM.no, none, 0, none, 0⟩, none, 0, [], none, 0, []⟩
  else if s.kind = 3 then ⟨s.kind, 0, 0, 0, s.it, none, 0, [], none, 0, []⟩
  else if s.kind = 4 then ⟨s.kind, 0, 0, 0, ⟨StmM.no, none, 0, none, 0⟩, s.IA, s.ic, s.its, none, 0, []⟩
  else if s.kind = 5 then ⟨s.kind, 0, 0, 0, ⟨StmM.no, none, 0, none, 0⟩, none, 0, [], s.HA, s.hc, s.hits⟩
  else ⟨s.kind, 0, 0, 0, ⟨StmM.no, none, 0, none, 0⟩, none, 0, [], none, 0, []⟩
theorem Rpv.bare_x (s : Rpv) : (Rpv.bare s).x = RepM.bareR s.x := by
  unfold Rpv.bare RepM.bareR
  show _ = if s.kind = 1 then _ else if s.kind = 2 then _ else if s.kind = 3 then _ else if s.kind = 4 then _ else if s.kind = 5 then _ else _
  by_cases k1 : s.kind = 1
  · rw [if_pos k1, if_pos k1]; rfl
  by_cases k2 : s.kind = 2
  · rw [if_neg k1, if_pos k2, if_neg k1, if_pos k2]; rfl
  by_cases k3 : s.kind = 3
  · rw [if_neg k1, if_neg k2, if_pos k3, if_neg k1, if_neg k2, if_pos k3]; rfl
  by_cases k4 : s.kind = 4
  · rw [if_neg k1, if_neg k2, if_neg k3, if_pos k4, if_neg k1, if_neg k2, if_neg k3, if_pos k4]; rfl
  by_cases k5 : s.kind = 5
  · rw [if_neg k1, if_neg k2, if_neg k3, if_neg k4, if_pos k5, if_neg k1, if_neg k2, if_neg k3, if_neg k4, if_pos k5]; rfl
  · rw [if_neg k1, if_neg k2, if_neg k3, if_neg k4, if_neg k5, if_neg k1, if_neg k2, if_neg k3, if_neg k4, if_neg k5]; rfl
theorem rbare_1 (mark err pl : Int) (i : Itv) (IA : Option Addr) (ic : Nat) (its : List Itv) (HA : Option Addr) (hc : Nat) (hits : List (Nat × Int)) : Rpv.bare ⟨1, mark, err, pl, i, IA, ic, its, HA, hc, hits⟩ = ⟨1, mark, 0, 0, ⟨StmM.no, none, 0, none, 0⟩, none, 0, [], none, 0, []⟩ := by simp [Rpv.bare]
theorem rbare_2 (mark err pl : Int) (i : Itv) (IA : Option Addr) (ic : Nat) (its : List Itv) (HA : Option Addr) (hc : Nat) (hits : List (Nat × Int)) : Rpv.bare ⟨2, mark, err, pl, i, IA, ic, its, HA, hc, hits⟩ = ⟨2, 0, err, pl, ⟨StmM.no, none, 0, none, 0⟩, none, 0, [], none, 0, []⟩ := by simp [Rpv.bare]
theorem rbare_3 (mark err pl : Int) (i : Itv) (IA : Option Addr) (ic : Nat) (its : List Itv) (HA : Option Addr) (hc : Nat) (hits : List (Nat × Int)) : Rpv.bare ⟨3, mark, err, pl, i, IA, ic, its, HA, hc, hits⟩ = ⟨3, 0, 0, 0, i, none, 0, [], none, 0, []⟩ := by simp [Rpv.bare]
theorem rbare_4 (mark err pl : Int) (i : Itv) (IA : Option Addr) (ic : Nat) (its : List Itv) (HA : Option Addr) (hc : Nat) (hits : List (Nat × Int)) : Rpv.bare ⟨4, mark, err, pl, i, IA, ic, its, HA, hc, hits⟩ = ⟨4, 0, 0, 0, ⟨StmM.no, none, 0, none, 0⟩, IA, ic, its, none, 0, []⟩ := by simp [Rpv.bare]
theorem rbare_5 (mark err pl : Int) (i : Itv) (IA : Option Addr) (ic : Nat) (its : List Itv) (HA : Option Addr) (hc : Nat) (hits : List (Nat × Int)) : Rpv.bare ⟨5, mark, err, pl, i, IA, ic, its, HA, hc, hits⟩ = ⟨5, 0, 0, 0, ⟨StmM.no, none, 0, none, 0⟩, none, 0, [], HA, hc, hits⟩ := by simp [Rpv.bare]
theorem rbare_e (kind : Int) (h : kind ≠ 1 ∧ kind ≠ 2 ∧ kind ≠ 3 ∧ kind ≠ 4 ∧ kind ≠ 5) (mark err pl : Int) (i : Itv) (IA : Option Addr) (ic : Nat) (its : List Itv) (HA : Option Addr) (hc : Nat) (hits : List (Nat × Int)) : Rpv.bare ⟨kind, mark, err, pl, i, IA, ic, its, HA, hc, hits⟩ = ⟨kind, 0, 0, 0, ⟨StmM.no, none, 0, none, 0⟩, none, 0, [], none, 0, []⟩ := by
  obtain ⟨h1, h2, h3, h4, h5⟩ := h
  simp [Rpv.bare, h1, h2, h3, h4, h5]
theorem Rpv.At.bare_ {s : Rpv} {w : World} (hs : s.At w) : (Rpv.bare s).At w := by
  have RX := Lib.hid hs
  obtain ⟨kind, mark, err, pl, i, IA, ic, its, HA, hc, hits⟩ := s
  by_cases k1 : kind = 1
  · subst k1; rw [rbare_1]; exact ⟨nilItv_at w, .inl rfl, nofun, .inl rfl, ⟨RX.out.ok.hkind, RX.out.ok.hmark, (by simp [Rpv.x]), (by simp [Rpv.x]), StmM.no_ok, nofun, nofun⟩, Nat.le_refl _, Nat.le_refl _, Nat.zero_le _, Nat.zero_le _⟩
  by_cases k2 : kind = 2
  · subst k2; rw [rbare_2]; exact ⟨nilItv_at w, .inl rfl, nofun, .inl rfl, ⟨RX.out.ok.hkind, (by simp [Rpv.x]), RX.out.ok.herr, RX.out.ok.hplace, StmM.no_ok, nofun, nofun⟩, Nat.le_refl _, Nat.le_refl _, Nat.zero_le _, Nat.zero_le _⟩
  by_cases k3 : kind = 3
  · subst k3; rw [rbare_3]; exact ⟨RX.out.hi, .inl rfl, nofun, .inl rfl, ⟨RX.out.ok.hkind, (by simp [Rpv.x]), (by simp [Rpv.x]), (by simp [Rpv.x]), RX.out.ok.hit, nofun, nofun⟩, Nat.le_refl _, Nat.le_refl _, Nat.zero_le _, Nat.zero_le _⟩
  by_cases k4 : kind = 4
  · subst k4; rw [rbare_4]; exact ⟨nilItv_at w, RX.out.rI, RX.out.aI, .inl rfl, ⟨RX.out.ok.hkind, (by simp [Rpv.x]), (by simp [Rpv.x]), (by simp [Rpv.x]), StmM.no_ok, RX.out.ok.hits_, nofun⟩, RX.out.lI, Nat.le_refl _, RX.out.mI, Nat.zero_le _⟩
  by_cases k5 : kind = 5
  · subst k5; rw [rbare_5]; exact ⟨nilItv_at w, .inl rfl, nofun, RX.out.rH, ⟨RX.out.ok.hkind, (by simp [Rpv.x]), (by simp [Rpv.x]), (by simp [Rpv.x]), StmM.no_ok, nofun, RX.out.ok.hh⟩, Nat.le_refl _, RX.out.lH, Nat.zero_le _, RX.out.mH⟩
  rw [rbare_e kind ⟨k1, k2, k3, k4, k5⟩]; exact ⟨nilItv_at w, .inl rfl, nofun, .inl rfl, ⟨RX.out.ok.hkind, (by simp [Rpv.x]), (by simp [Rpv.x]), (by simp [Rpv.x]), StmM.no_ok, nofun, nofun⟩, Nat.le_refl _, Nat.le_refl _, Nat.zero_le _, Nat.zero_le _⟩
set_option maxRecDepth 100000 in
set_option maxHeartbeats 8000000 in
theorem baretell_any (s : Rpv) (w : World) : Calls Try.prog 86 #[.agg s.cells] w fun e w' => e = .returned (.agg (Rpv.bare s).cells) ∧ Below w.heap.size w w' := by
  obtain ⟨kind, mark, err, pl, i, IA, ic, its, HA, hc, hits⟩ := s
  obtain ⟨BV, hBV⟩ : ∃ v, (Rpv.bare ⟨kind, mark, err, pl, i, IA, ic, its, HA, hc, hits⟩).cells = v := ⟨_, rfl⟩
  rw [hBV]
  have HBV := Lib.hid hBV
  clear hBV
  simp only [Rpv.cells]
  have b0 : Below w.heap.size w (((w.alloc (.cells #[.int .i64 kind, .int .i64 mark, .int .i64 err, .int .i64 pl, .int .u64 (i.x.key : Int), .slice i.A i.x.vec.length i.c, .slice i.A2 i.x.note.length i.c2, .slice IA its.length ic, .slice HA hits.length hc] 34)).alloc (.cells #[.int .i64 0, .int .i64 0, .int .i64 0, .int .i64 0, .int .u64 0, .slice none 0 0, .slice none 0 0, .slice none 0 0, .slice none 0 0] 34)).alloc (.cells #[.int .i64 kind, .int .i64 0, .int .i64 0, .int .i64 0, .int .u64 0, .slice none 0 0, .slice none 0 0, .slice none 0 0, .slice none 0 0] 34)) := (((Below.refl _ _).alloc (Nat.le_refl _) _).alloc (by simp) _).alloc (by simp; omega) _
  have U1 := ((Blk.new w 34 #[.int .i64 kind, .int .i64 mark, .int .i64 err, .int .i64 pl, .int .u64 (i.x.key : Int), .slice i.A i.x.vec.length i.c, .slice i.A2 i.x.note.length i.c2, .slice IA its.length ic, .slice HA hits.length hc]).alloc (.cells #[.int .i64 0, .int .i64 0, .int .i64 0, .int .i64 0, .int .u64 0, .slice none 0 0, .slice none 0 0, .slice none 0 0, .slice none 0 0] 34)).alloc (.cells #[.int .i64 kind, .int .i64 0, .int .i64 0, .int .i64 0, .int .u64 0, .slice none 0 0, .slice none 0 0, .slice none 0 0, .slice none 0 0] 34)
  have U3 := (Blk.new (w.alloc (.cells #[.int .i64 kind, .int .i64 mark, .int .i64 err, .int .i64 pl, .int .u64 (i.x.key : Int), .slice i.A i.x.vec.length i.c, .slice i.A2 i.x.note.length i.c2, .slice IA its.length ic, .slice HA hits.length hc] 34)) 34 #[.int .i64 0, .int .i64 0, .int .i64 0, .int .i64 0, .int .u64 0, .slice none 0 0, .slice none 0 0, .slice none 0 0, .slice none 0 0]).alloc (.cells #[.int .i64 kind, .int .i64 0, .int .i64 0, .int .i64 0, .int .u64 0, .slice none 0 0, .slice none 0 0, .slice none 0 0, .slice none 0 0] 34)
  have U2 := Blk.new ((w.alloc (.cells #[.int .i64 kind, .int .i64 mark, .int .i64 err, .int .i64 pl, .int .u64 (i.x.key : Int), .slice i.A i.x.vec.length i.c, .slice i.A2 i.x.note.length i.c2, .slice IA its.length ic, .slice HA hits.length hc] 34)).alloc (.cells #[.int .i64 0, .int .i64 0, .int .i64 0, .int .i64 0, .int .u64 0, .slice none 0 0, .slice none 0 0, .slice none 0 0, .slice none 0 0] 34)) 34 #[.int .i64 kind, .int .i64 0, .int .i64 0, .int .i64 0, .int .u64 0, .slice none 0 0, .slice none 0 0, .slice none 0 0, .slice none 0 0]
  have e1 : (w.alloc (.cells #[.int .i64 kind, .int .i64 mark, .int .i64 err, .int .i64 pl, .int .u64 (i.x.key : Int), .slice i.A i.x.vec.length i.c, .slice i.A2 i.x.note.length i.c2, .slice IA its.length ic, .slice HA hits.length hc] 34)).heap.size = w.heap.size + 1 := by simp
  have e2 : ((w.alloc (.cells #[.int .i64 kind, .int .i64 mark, .int .i64 err, .int .i64 pl, .int .u64 (i.x.key : Int), .slice i.A i.x.vec.length i.c, .slice i.A2 i.x.note.length i.c2, .slice IA its.length ic, .slice HA hits.length hc] 34)).alloc (.cells #[.int .i64 0, .int .i64 0, .int .i64 0, .int .i64 0, .int .u64 0, .slice none 0 0, .slice none 0 0, .slice none 0 0, .slice none 0 0] 34)).heap.size = w.heap.size + 1 + 1 := by simp
  rw [e1] at U3
  rw [e2] at U2
  clear e1 e2
  go_enter Try.func86, Try.ntmps86
  go_upto_region 2 with fail
  generalize ((w.alloc (.cells #[.int .i64 kind, .int .i64 mark, .int .i64 err, .int .i64 pl, .int .u64 (i.x.key : Int), .slice i.A i.x.vec.length i.c, .slice i.A2 i.x.note.length i.c2, .slice IA its.length ic, .slice HA hits.length hc] 34)).alloc (.cells #[.int .i64 0, .int .i64 0, .int .i64 0, .int .i64 0, .int .u64 0, .slice none 0 0, .slice none 0 0, .slice none 0 0, .slice none 0 0] 34)).alloc (.cells #[.int .i64 kind, .int .i64 0, .int .i64 0, .int .i64 0, .int .u64 0, .slice none 0 0, .slice none 0 0, .slice none 0 0, .slice none 0 0] 34) = V0 at *
  obtain ⟨g, hg⟩ : ∃ g, w.heap.size = g := ⟨_, rfl⟩
  have HG := Lib.hid hg
  rw [hg] at U1 U2 U3 b0
  simp only [hg]
  have B0 := Lib.hid b0
  clear hg b0
  have HU := Lib.hid (And.intro U1 (And.intro U2 U3))
  obtain ⟨d0, d1, d2, d3, d4, d5, d6, d7, d8⟩ := U1.c9
  obtain ⟨e0, e1, e2, e3, e4, e5, e6, e7, e8⟩ := U2.c9
  clear U1 U2 U3
  by_cases k1 : kind = 1
  · subst k1
    as_aux_lemma =>
    have hy : Blk (V0.setCell ⟨g + 1 + 1, 1, none⟩ (.int .i64 mark)) (g + 1 + 1) 34 #[.int .i64 1, .int .i64 mark, .int .i64 0, .int .i64 0, .int .u64 0, .slice none 0 0, .slice none 0 0, .slice none 0 0, .slice none 0 0] := (HU.out.2.1.set_ 1 (.int .i64 mark))
    have h3 : Blk (V0.setCell ⟨g + 1 + 1, 1, none⟩ (.int .i64 mark)) (g + 1) 34 #[.int .i64 0, .int .i64 0, .int .i64 0, .int .i64 0, .int .u64 0, .slice none 0 0, .slice none 0 0, .slice none 0 0, .slice none 0 0] := (HU.out.2.2.far (p := ⟨g + 1 + 1, 1, none⟩) (by simp) (.int .i64 mark))
    have hb1 : Below g w (V0.setCell ⟨g + 1 + 1, 1, none⟩ (.int .i64 mark)) := sets_below B0.out (by have := HU.out.2.1.lt; omega) (by omega : g ≤ g + 1 + 1) [(1, .int .i64 mark)]
    have fz1 := HU.out.2.1.frozen 1
    go_upto_region 14 with fail
    generalize (V0.setCell ⟨g + 1 + 1, 1, none⟩ (.int .i64 mark)) = V1 at *
    have hbv : BV = #[.int .i64 1, .int .i64 mark, .int .i64 0, .int .i64 0, .int .u64 0, .slice none 0 0, .slice none 0 0, .slice none 0 0, .slice none 0 0] := HBV.out.symm.trans (by rw [rbare_1]; rfl)
    subst hbv
    have B1 := Lib.hid hb1
    clear hb1
    go_wp2_with (first | (refine wpl_load_row rfl _ (.tmp 3) rfl (g + 1 + 1) (by go_simp) _ #[.int .i64 1, .int .i64 mark, .int .i64 0, .int .i64 0, .int .u64 0, .slice none 0 0, .slice none 0 0, .slice none 0 0, .slice none 0 0] (0, 0) _ hy Try.underlying34 rfl (by kernel_rfl) ?_) | (refine wpList_store_row rfl _ (.tmp 2) (.tmp 37) rfl (g + 1) #[.int .i64 1, .int .i64 mark, .int .i64 0, .int .i64 0, .int .u64 0, .slice none 0 0, .slice none 0 0, .slice none 0 0, .slice none 0 0] (by go_simp) (by go_simp) _ _ h3 (by kernel_rfl) rfl (by simp [Value.oneCell']) ?_))
    refine ret_cell1 rfl (g + 1) #[.int .i64 1, .int .i64 mark, .int .i64 0, .int .i64 0, .int .u64 0, .slice none 0 0, .slice none 0 0, .slice none 0 0, .slice none 0 0] _ rfl (h3.setRow_ _) Try.underlying34 rfl (by kernel_rfl) rfl ?_
    exact ⟨rfl, by rw [HG.out]; exact below_grown B1.out (grownBy_setRow _ _ _) (by have := h3.lt; omega) (by omega)⟩
  by_cases k2 : kind = 2
  · subst k2
    as_aux_lemma =>
    have hy : Blk ((V0.setCell ⟨g + 1 + 1, 2, none⟩ (.int .i64 err)).setCell ⟨g + 1 + 1, 3, none⟩ (.int .i64 pl)) (g + 1 + 1) 34 #[.int .i64 2, .int .i64 0, .int .i64 err, .int .i64 pl, .int .u64 0, .slice none 0 0, .slice none 0 0, .slice none 0 0, .slice none 0 0] := ((HU.out.2.1.set_ 2 (.int .i64 err)).set_ 3 (.int .i64 pl))
    have h3 : Blk ((V0.setCell ⟨g + 1 + 1, 2, none⟩ (.int .i64 err)).setCell ⟨g + 1 + 1, 3, none⟩ (.int .i64 pl)) (g + 1) 34 #[.int .i64 0, .int .i64 0, .int .i64 0, .int .i64 0, .int .u64 0, .slice none 0 0, .slice none 0 0, .slice none 0 0, .slice none 0 0] := ((HU.out.2.2.far (p := ⟨g + 1 + 1, 2, none⟩) (by simp) (.int .i64 err)).far (p := ⟨g + 1 + 1, 3, none⟩) (by simp) (.int .i64 pl))
    have hb1 : Below g w ((V0.setCell ⟨g + 1 + 1, 2, none⟩ (.int .i64 err)).setCell ⟨g + 1 + 1, 3, none⟩ (.int .i64 pl)) := sets_below B0.out (by have := HU.out.2.1.lt; omega) (by omega : g ≤ g + 1 + 1) [(2, .int .i64 err), (3, .int .i64 pl)]
    have fz2 := HU.out.2.1.frozen 2
    have fz3 := HU.out.2.1.frozen 3
    go_upto_region 14 with fail
    generalize ((V0.setCell ⟨g + 1 + 1, 2, none⟩ (.int .i64 err)).setCell ⟨g + 1 + 1, 3, none⟩ (.int .i64 pl)) = V1 at *
    have hbv : BV = #[.int .i64 2, .int .i64 0, .int .i64 err, .int .i64 pl, .int .u64 0, .slice none 0 0, .slice none 0 0, .slice none 0 0, .slice none 0 0] := HBV.out.symm.trans (by rw [rbare_2]; rfl)
    subst hbv
    have B1 := Lib.hid hb1
    clear hb1
    go_wp2_with (first | (refine wpl_load_row rfl _ (.tmp 3) rfl (g + 1 + 1) (by go_simp) _ #[.int .i64 2, .int .i64 0, .int .i64 err, .int .i64 pl, .int .u64 0, .slice none 0 0, .slice none 0 0, .slice none 0 0, .slice none 0 0] (0, 0) _ hy Try.underlying34 rfl (by kernel_rfl) ?_) | (refine wpList_store_row rfl _ (.tmp 2) (.tmp 37) rfl (g + 1) #[.int .i64 2, .int .i64 0, .int .i64 err, .int .i64 pl, .int .u64 0, .slice none 0 0, .slice none 0 0, .slice none 0 0, .slice none 0 0] (by go_simp) (by go_simp) _ _ h3 (by kernel_rfl) rfl (by simp [Value.oneCell']) ?_))
    refine ret_cell1 rfl (g + 1) #[.int .i64 2, .int .i64 0, .int .i64 err, .int .i64 pl, .int .u64 0, .slice none 0 0, .slice none 0 0, .slice none 0 0, .slice none 0 0] _ rfl (h3.setRow_ _) Try.underlying34 rfl (by kernel_rfl) rfl ?_
    exact ⟨rfl, by rw [HG.out]; exact below_grown B1.out (grownBy_setRow _ _ _) (by have := h3.lt; omega) (by omega)⟩
  by_cases k3 : kind = 3
  · subst k3
    as_aux_lemma =>
    have hy : Blk (((V0.setCell ⟨g + 1 + 1, 4, none⟩ (.int .u64 (i.x.key : Int))).setCell ⟨g + 1 + 1, 5, none⟩ (.slice i.A i.x.vec.length i.c)).setCell ⟨g + 1 + 1, 6, none⟩ (.slice i.A2 i.x.note.length i.c2)) (g + 1 + 1) 34 #[.int .i64 3, .int .i64 0, .int .i64 0, .int .i64 0, .int .u64 (i.x.key : Int), .slice i.A i.x.vec.length i.c, .slice i.A2 i.x.note.length i.c2, .slice none 0 0, .slice none 0 0] := (((HU.out.2.1.set_ 4 (.int .u64 (i.x.key : Int))).set_ 5 (.slice i.A i.x.vec.length i.c)).set_ 6 (.slice i.A2 i.x.note.length i.c2))
    have h3 : Blk (((V0.setCell ⟨g + 1 + 1, 4, none⟩ (.int .u64 (i.x.key : Int))).setCell ⟨g + 1 + 1, 5, none⟩ (.slice i.A i.x.vec.length i.c)).setCell ⟨g + 1 + 1, 6, none⟩ (.slice i.A2 i.x.note.length i.c2)) (g + 1) 34 #[.int .i64 0, .int .i64 0, .int .i64 0, .int .i64 0, .int .u64 0, .slice none 0 0, .slice none 0 0, .slice none 0 0, .slice none 0 0] := (((HU.out.2.2.far (p := ⟨g + 1 + 1, 4, none⟩) (by simp) (.int .u64 (i.x.key : Int))).far (p := ⟨g + 1 + 1, 5, none⟩) (by simp) (.slice i.A i.x.vec.length i.c)).far (p := ⟨g + 1 + 1, 6, none⟩) (by simp) (.slice i.A2 i.x.note.length i.c2))
    have hb1 : Below g w (((V0.setCell ⟨g + 1 + 1, 4, none⟩ (.int .u64 (i.x.key : Int))).setCell ⟨g + 1 + 1, 5, none⟩ (.slice i.A i.x.vec.length i.c)).setCell ⟨g + 1 + 1, 6, none⟩ (.slice i.A2 i.x.note.length i.c2)) := sets_below B0.out (by have := HU.out.2.1.lt; omega) (by omega : g ≤ g + 1 + 1) [(4, .int .u64 (i.x.key : Int)), (5, .slice i.A i.x.vec.length i.c), (6, .slice i.A2 i.x.note.length i.c2)]
    have fz4 := HU.out.2.1.frozen 4
    have fz5 := HU.out.2.1.frozen 5
    have fz6 := HU.out.2.1.frozen 6
    go_upto_region 14 with fail
    generalize (((V0.setCell ⟨g + 1 + 1, 4, none⟩ (.int .u64 (i.x.key : Int))).setCell ⟨g + 1 + 1, 5, none⟩ (.slice i.A i.x.vec.length i.c)).setCell ⟨g + 1 + 1, 6, none⟩ (.slice i.A2 i.x.note.length i.c2)) = V1 at *
    have hbv : BV = #[.int .i64 3, .int .i64 0, .int .i64 0, .int .i64 0, .int .u64 (i.x.key : Int), .slice i.A i.x.vec.length i.c, .slice i.A2 i.x.note.length i.c2, .slice none 0 0, .slice none 0 0] := HBV.out.symm.trans (by rw [rbare_3]; rfl)
    subst hbv
    have B1 := Lib.hid hb1
    clear hb1
    go_wp2_with (first | (refine wpl_load_row rfl _ (.tmp 3) rfl (g + 1 + 1) (by go_simp) _ #[.int .i64 3, .int .i64 0, .int .i64 0, .int .i64 0, .int .u64 (i.x.key : Int), .slice i.A i.x.vec.length i.c, .slice i.A2 i.x.note.length i.c2, .slice none 0 0, .slice none 0 0] (0, 0) _ hy Try.underlying34 rfl (by kernel_rfl) ?_) | (refine wpList_store_row rfl _ (.tmp 2) (.tmp 37) rfl (g + 1) #[.int .i64 3, .int .i64 0, .int .i64 0, .int .i64 0, .int .u64 (i.x.key : Int), .slice i.A i.x.vec.length i.c, .slice i.A2 i.x.note.length i.c2, .slice none 0 0, .slice none 0 0] (by go_simp) (by go_simp) _ _ h3 (by kernel_rfl) rfl (by simp [Value.oneCell']) ?_))
    refine ret_cell1 rfl (g + 1) #[.int .i64 3, .int .i64 0, .int .i64 0, .int .i64 0, .int .u64 (i.x.key : Int), .slice i.A i.x.vec.length i.c, .slice i.A2 i.x.note.length i.c2, .slice none 0 0, .slice none 0 0] _ rfl (h3.setRow_ _) Try.underlying34 rfl (by kernel_rfl) rfl ?_
    exact ⟨rfl, by rw [HG.out]; exact below_grown B1.out (grownBy_setRow _ _ _) (by have := h3.lt; omega) (by omega)⟩
  by_cases k4 : kind = 4
  · subst k4
    as_aux_lemma =>
    have hy : Blk (V0.setCell ⟨g + 1 + 1, 7, none⟩ (.slice IA its.length ic)) (g + 1 + 1) 34 #[.int .i64 4, .int .i64 0, .int .i64 0, .int .i64 0, .int .u64 0, .slice none 0 0, .slice none 0 0, .slice IA its.length ic, .slice none 0 0] := (HU.out.2.1.set_ 7 (.slice IA its.length ic))
    have h3 : Blk (V0.setCell ⟨g + 1 + 1, 7, none⟩ (.slice IA its.length ic)) (g + 1) 34 #[.int .i64 0, .int .i64 0, .int .i64 0, .int .i64 0, .int .u64 0, .slice none 0 0, .slice none 0 0, .slice none 0 0, .slice none 0 0] := (HU.out.2.2.far (p := ⟨g + 1 + 1, 7, none⟩) (by simp) (.slice IA its.length ic))
    have hb1 : Below g w (V0.setCell ⟨g + 1 + 1, 7, none⟩ (.slice IA its.length ic)) := sets_below B0.out (by have := HU.out.2.1.lt; omega) (by omega : g ≤ g + 1 + 1) [(7, .slice IA its.length ic)]
    have fz7 := HU.out.2.1.frozen 7
    go_upto_region 14 with fail
    generalize (V0.setCell ⟨g + 1 + 1, 7, none⟩ (.slice IA its.length ic)) = V1 at *
    have hbv : BV = #[.int .i64 4, .int .i64 0, .int .i64 0, .int .i64 0, .int .u64 0, .slice none 0 0, .slice none 0 0, .slice IA its.length ic, .slice none 0 0] := HBV.out.symm.trans (by rw [rbare_4]; rfl)
    subst hbv
    have B1 := Lib.hid hb1
    clear hb1
    go_wp2_with (first | (refine wpl_load_row rfl _ (.tmp 3) rfl (g + 1 + 1) (by go_simp) _ #[.int .i64 4, .int .i64 0, .int .i64 0, .int .i64 0, .int .u64 0, .slice none 0 0, .slice none 0 0, .slice IA its.length ic, .slice none 0 0] (0, 0) _ hy Try.underlying34 rfl (by kernel_rfl) ?_) | (refine wpList_store_row rfl _ (.tmp 2) (.tmp 37) rfl (g + 1) #[.int .i64 4, .int .i64 0, .int .i64 0, .int .i64 0, .int .u64 0, .slice none 0 0, .slice none 0 0, .slice IA its.length ic, .slice none 0 0] (by go_simp) (by go_simp) _ _ h3 (by kernel_rfl) rfl (by simp [Value.oneCell']) ?_))
    refine ret_cell1 rfl (g + 1) #[.int .i64 4, .int .i64 0, .int .i64 0, .int .i64 0, .int .u64 0, .slice none 0 0, .slice none 0 0, .slice IA its.length ic, .slice none 0 0] _ rfl (h3.setRow_ _) Try.underlying34 rfl (by kernel_rfl) rfl ?_
    exact ⟨rfl, by rw [HG.out]; exact below_grown B1.out (grownBy_setRow _ _ _) (by have := h3.lt; omega) (by omega)⟩
  by_cases k5 : kind = 5
  · subst k5
    as_aux_lemma =>
    have hy : Blk (V0.setCell ⟨g + 1 + 1, 8, none⟩ (.slice HA hits.length hc)) (g + 1 + 1) 34 #[.int .i64 5, .int .i64 0, .int .i64 0, .int .i64 0, .int .u64 0, .slice none 0 0, .slice none 0 0, .slice none 0 0, .slice HA hits.length hc] := (HU.out.2.1.set_ 8 (.slice HA hits.length hc))
    have h3 : Blk (V0.setCell ⟨g + 1 + 1, 8, none⟩ (.slice HA hits.length hc)) (g + 1) 34 #[.int .i64 0, .int .i64 0, .int .i64 0, .int .i64 0, .int .u64 0, .slice none 0 0, .slice none 0 0, .slice none 0 0, .slice none 0 0] := (HU.out.2.2.far (p := ⟨g + 1 + 1, 8, none⟩) (by simp) (.slice HA hits.length hc))
    have hb1 : Below g w (V0.setCell ⟨g + 1 + 1, 8, none⟩ (.slice HA hits.length hc)) := sets_below B0.out (by have := HU.out.2.1.lt; omega) (by omega : g ≤ g + 1 + 1) [(8, .slice HA hits.length hc)]
    have fz8 := HU.out.2.1.frozen 8
    go_upto_region 14 with fail
    generalize (V0.setCell ⟨g + 1 + 1, 8, none⟩ (.slice HA hits.length hc)) = V1 at *
    have hbv : BV = #[.int .i64 5, .int .i64 0, .int .i64 0, .int .i64 0, .int .u64 0, .slice none 0 0, .slice none 0 0, .slice none 0 0, .slice HA hits.length hc] := HBV.out.symm.trans (by rw [rbare_5]; rfl)
    subst hbv
    have B1 := Lib.hid hb1
    clear hb1
    go_wp2_with (first | (refine wpl_load_row rfl _ (.tmp 3) rfl (g + 1 + 1) (by go_simp) _ #[.int .i64 5, .int .i64 0, .int .i64 0, .int .i64 0, .int .u64 0, .slice none 0 0, .slice none 0 0, .slice none 0 0, .slice HA hits.length hc] (0, 0) _ hy Try.underlying34 rfl (by kernel_rfl) ?_) | (refine wpList_store_row rfl _ (.tmp 2) (.tmp 37) rfl (g + 1) #[.int .i64 5, .int .i64 0, .int .i64 0, .int .i64 0, .int .u64 0, .slice none 0 0, .slice none 0 0, .slice none 0 0, .slice HA hits.length hc] (by go_simp) (by go_simp) _ _ h3 (by kernel_rfl) rfl (by simp [Value.oneCell']) ?_))
    refine ret_cell1 rfl (g + 1) #[.int .i64 5, .int .i64 0, .int .i64 0, .int .i64 0, .int .u64 0, .slice none 0 0, .slice none 0 0, .slice none 0 0, .slice HA hits.length hc] _ rfl (h3.setRow_ _) Try.underlying34 rfl (by kernel_rfl) rfl ?_
    exact ⟨rfl, by rw [HG.out]; exact below_grown B1.out (grownBy_setRow _ _ _) (by have := h3.lt; omega) (by omega)⟩
  have h1 : (kind == 1) = false := beq_eq_false_iff_ne.2 k1
  have h2 : (kind == 2) = false := beq_eq_false_iff_ne.2 k2
  have h3 : (kind == 3) = false := beq_eq_false_iff_ne.2 k3
  have h4 : (kind == 4) = false := beq_eq_false_iff_ne.2 k4
  have h5 : (kind == 5) = false := beq_eq_false_iff_ne.2 k5
  have hy := HU.out.2.1
  have h3 := HU.out.2.2
  have hb1 := B0.out
  go_upto_region 14 with fail
  generalize V0 = V1 at *
  have hbv : BV = #[.int .i64 kind, .int .i64 0, .int .i64 0, .int .i64 0, .int .u64 0, .slice none 0 0, .slice none 0 0, .slice none 0 0, .slice none 0 0] := HBV.out.symm.trans (by rw [rbare_e kind ⟨k1, k2, k3, k4, k5⟩]; rfl)
  subst hbv
  have B1 := Lib.hid hb1
  clear hb1
  go_wp2_with (first | (refine wpl_load_row rfl _ (.tmp 3) rfl (g + 1 + 1) (by go_simp) _ #[.int .i64 kind, .int .i64 0, .int .i64 0, .int .i64 0, .int .u64 0, .slice none 0 0, .slice none 0 0, .slice none 0 0, .slice none 0 0] (0, 0) _ hy Try.underlying34 rfl (by kernel_rfl) ?_) | (refine wpList_store_row rfl _ (.tmp 2) (.tmp 37) rfl (g + 1) #[.int .i64 kind, .int .i64 0, .int .i64 0, .int .i64 0, .int .u64 0, .slice none 0 0, .slice none 0 0, .slice none 0 0, .slice none 0 0] (by go_simp) (by go_simp) _ _ h3 (by kernel_rfl) rfl (by simp [Value.oneCell']) ?_))
  refine ret_cell1 rfl (g + 1) #[.int .i64 kind, .int .i64 0, .int .i64 0, .int .i64 0, .int .u64 0, .slice none 0 0, .slice none 0 0, .slice none 0 0, .slice none 0 0] _ rfl (h3.setRow_ _) Try.underlying34 rfl (by kernel_rfl) rfl ?_
  exact ⟨rfl, by rw [HG.out]; exact below_grown B1.out (grownBy_setRow _ _ _) (by have := h3.lt; omega) (by omega)⟩
def rmtP (g : Nat) (s : Rpv) (P1 P2 P3 P4 P5 P6 P7 : Bool) : List (Nat × Nat × Value) := [(0, 5, (.pointer (some ⟨g, 0, none⟩))), (1, 6, (.int .i64 s.kind)), (2, 7, (.bool P1)), (3, 8, (.bool P1)), (4, 9, (bif P1 then undef else (.pointer (some ⟨g, 0, none⟩)))), (5, 10, (bif P1 then undef else (.int .i64 s.kind))), (6, 11, (bif P1 then undef else (.bool P2))), (7, 12, (.bool P2)), (8, 13, (.bool P2)), (9, 14, (bif P2 then undef else (.agg s.cells))), (10, 15, (bif P2 then undef else (.agg s.cells))), (11, 16, (bif P2 then undef else (.agg (Rpv.bare s).cells))), (12, 17, (bif P2 then undef else (.bool (!P3)))), (13, 18, (bif P2 then undef else (.bool P3))), (14, 19, (.bool P3)), (15, 20, (.bool P3)), (16, 21, (bif P3 then undef else (.pointer (some ⟨g, 1, none⟩)))), (17, 22, (bif P3 then undef else (.int .i64 s.mark))), (18, 23, (bif P3 then undef else (.bool P4))), (19, 24, (.bool P4)), (20, 25, (.bool P4)), (21, 26, (bif P4 then undef else (.pointer (some ⟨g, 1, none⟩)))), (22, 27, (bif P4 then undef else (.int .i64 s.mark))), (23, 28, (bif P4 then undef else (.bool P5))), (24, 29, (.bool P5)), (25, 30, (.bool P5)), (26, 31, (bif P5 then undef else (.pointer (some ⟨g, 7, none⟩)))), (27, 32, (bif P5 then undef else (.slice s.IA s.its.length s.ic))), (28, 33, (bif P5 then undef else (.int .i64 (s.its.length : Int)))), (29, 34, (bif P5 then undef else (.bool P6))), (30, 35, (.bool P6)), (31, 36, (.bool P6)), (32, 37, (bif P6 then undef else (.pointer (some ⟨g, 8, none⟩)))), (33, 38, (bif P6 then undef else (.slice s.HA s.hits.length s.hc))), (34, 39, (bif P6 then undef else (.int .i64 (s.hits.length : Int)))), (35, 40, (bif P6 then undef else (.bool P7))), (36, 41, (.bool P7))]
namespace RepM
/-- What is asked of a reply behind its counts. -/
def restOk (x : Rp) : Prop := (∀ i ∈ x.its, ItemM.may i = 0) ∧ (∀ h ∈ x.hits, 0 ≤ h.2) ∧ (x.kind = 2 → (1 ≤ x.errno ∧ x.errno ≤ 255) ∧ 0 ≤ x.place ∧ x.place ≤ 4095) ∧ (x.kind = 3 → ItemM.may x.it = 0)
theorem mayR_doc (x : Rp) : mayR x = true ↔ ((1 ≤ x.kind ∧ x.kind ≤ 5) ∧ same x (bareR x) = true ∧ (0 ≤ x.mark ∧ x.mark ≤ 7) ∧ x.its.length ≤ 50 ∧ x.hits.length ≤ 50) ∧ restOk x := by
  rw [mayR_iff, same_iff]
  obtain ⟨kind, mark, errno, place, it, its, hits⟩ := x
  unfold restOk
  constructor
  · rintro ⟨hk, hb⟩
    have hkk := kOk_kind hk
    simp only at hkk
    have : kind = 1 ∨ kind = 2 ∨ kind = 3 ∨ kind = 4 ∨ kind = 5 := by omega
    rcases this with rfl | rfl | rfl | rfl | rfl
    all_goals
      simp [bareR, kOk] at hb hk ⊢
      simp [hb]
      try simp [hk]
      try omega
    all_goals exact hk.2
  · rintro ⟨⟨hkk, hb, hm, hi, hh⟩, h1, h2, h3, h4⟩
    simp only at hkk hm hi hh h1 h2 h3 h4
    refine ⟨?_, hb⟩
    have : kind = 1 ∨ kind = 2 ∨ kind = 3 ∨ kind = 4 ∨ kind = 5 := by omega
    rcases this with rfl | rfl | rfl | rfl | rfl
    · simp [kOk]; exact hm
    · simp [kOk]; exact h3 rfl
    · simp [kOk]; exact h4 rfl
    · simp [kOk]; exact ⟨hi, h1⟩
    · simp only [kOk]; exact ⟨hh, h2⟩
end RepM
theorem mayR_letters (x : Rp) : ∃ P1 P2 P3 P4 P5 P6 P7 : Bool, (decide (x.kind < 1) = P1) ∧ ((P1 = true → P2 = true) ∧ (P1 = false → decide (5 < x.kind) = P2)) ∧ ((P2 = true → P3 = true) ∧ (P2 = false → RepM.same x (RepM.bareR x) = !P3)) ∧ ((P3 = true → P4 = true) ∧ (P3 = false → decide (x.mark < 0) = P4)) ∧ ((P4 = true → P5 = true) ∧ (P4 = false → decide (7 < x.mark) = P5)) ∧ ((P5 = true → P6 = true) ∧ (P5 = false → decide ((50 : Int) < x.its.length) = P6)) ∧ ((P6 = true → P7 = true) ∧ (P6 = false → decide ((50 : Int) < x.hits.length) = P7)) ∧ (RepM.mayR x = true ↔ (P7 = false ∧ RepM.restOk x)) := by
  obtain ⟨p2, h2, k2⟩ := or_letter (decide (x.kind < 1)) (decide (5 < x.kind))
  obtain ⟨p3, h3, k3⟩ := or_letter p2 (!RepM.same x (RepM.bareR x))
  obtain ⟨p4, h4, k4⟩ := or_letter p3 (decide (x.mark < 0))
  obtain ⟨p5, h5, k5⟩ := or_letter p4 (decide (7 < x.mark))
  obtain ⟨p6, h6, k6⟩ := or_letter p5 (decide ((50 : Int) < x.its.length))
  obtain ⟨p7, h7, k7⟩ := or_letter p6 (decide ((50 : Int) < x.hits.length))
  refine ⟨_, p2, p3, p4, p5, p6, p7, rfl, h2, ⟨h3.1, fun h => by rw [← h3.2 h, Bool.not_not]⟩, h4, h5, h6, h7, ?_⟩
  rw [RepM.mayR_doc, k7, k6, k5, k4, k3, k2]
  simp only [decide_eq_false_iff_not, Bool.not_eq_false']
  constructor
  · rintro ⟨⟨⟨q1, q2⟩, q3, ⟨q4, q5⟩, q6, q7⟩, q8⟩
    exact ⟨⟨⟨⟨⟨⟨⟨by omega, by omega⟩, q3⟩, by omega⟩, by omega⟩, by omega⟩, by omega⟩, q8⟩
  · rintro ⟨⟨⟨⟨⟨⟨⟨q1, q2⟩, q3⟩, q4⟩, q5⟩, q6⟩, q7⟩, q8⟩
    exact ⟨⟨⟨by omega, by omega⟩, q3, ⟨by omega, by omega⟩, by omega, by omega⟩, q8⟩
theorem BoolP.ff {bm : Bool} {w w' : World} (h : bm ≠ true) (hb : Below w.heap.size w w') : BoolP bm w (.returned (.bool false)) w' := by
  cases bm with
  | false => exact ⟨rfl, hb⟩
  | true => exact absurd rfl h
theorem BoolP.tt {bm : Bool} {w w' : World} (h : bm = true) (hb : Below w.heap.size w w') : BoolP bm w (.returned (.bool true)) w' := by subst h; exact ⟨rfl, hb⟩
set_option maxRecDepth 100000 in
set_option maxHeartbeats 16000000 in
theorem refmaytell_any (s : Rpv) (w : World) (hs : s.At w) : Calls Try.prog 26 #[.agg s.cells] w (BoolP (RepM.mayR s.x) w) := by
  have HS0 := Lib.hid hs
  obtain ⟨P1, P2, P3, P4, P5, P6, P7, h0, h1, h2, h3, h4, h5, h6, h7⟩ := mayR_letters s.x
  rw [show s.x.its.length = s.its.length from List.length_map ..] at h5
  rw [show s.x.hits.length = s.hits.length from rfl] at h6
  have H0 : Hid (decide (s.kind < 1) = P1) := Lib.hid h0
  have H1 : Hid ((P1 = true → P2 = true) ∧ (P1 = false → decide (5 < s.kind) = P2)) := Lib.hid h1
  have H2 := Lib.hid h2
  have H3 : Hid ((P3 = true → P4 = true) ∧ (P3 = false → decide (s.mark < 0) = P4)) := Lib.hid h3
  have H4 : Hid ((P4 = true → P5 = true) ∧ (P4 = false → decide (7 < s.mark) = P5)) := Lib.hid h4
  have H5 := Lib.hid h5
  have H6 := Lib.hid h6
  have H7 := Lib.hid h7
  obtain ⟨bm, hbm⟩ : ∃ b, RepM.mayR s.x = b := ⟨_, rfl⟩
  rw [hbm]
  have HBM := Lib.hid hbm
  clear h0 h1 h2 h3 h4 h5 h6 h7 hbm hs
  have b0 : Below w.heap.size w (w.alloc (.cells s.cells 34)) := (Below.refl _ _).alloc (Nat.le_refl _) _
  have U1 := Blk.new w 34 s.cells
  go_enter Try.func26, Try.ntmps26
  go_upto_region 1 with fail
  generalize w.alloc (.cells s.cells 34) = V0 at *
  obtain ⟨g, hg⟩ : ∃ g, w.heap.size = g := ⟨_, rfl⟩
  rw [hg] at U1
  simp only [hg]
  clear hg
  have HX := Lib.hid U1
  have HS := Lib.hid (HS0.out.below b0)
  have B0 := Lib.hid b0
  clear U1 b0 HS0
  refine wp_named fun a0 ha0 => ?_
  have z1 : a0.tmps.getD 1 undef = (.pointer (some ⟨g, 0, none⟩)) := by rw [ha0.out]; rfl
  have hsz0 : a0.tmps.size = 98 := by rw [ha0.out]; rfl
  refine wp_region_invB _ (by kernel_rfl) (fun L a wv => PIF a0 [5, 6, 7, 8, 9, 10, 11, 12, 13, 14, 15, 16, 17, 18, 19, 20, 21, 22, 23, 24, 25, 26, 27, 28, 29, 30, 31, 32, 33, 34, 35, 36, 37, 38, 39, 40, 41] (rmtP g s P1 P2 P3 P4 P5 P6 P7) L a ∧ Below V0.heap.size V0 wv) (by kernel_rfl) ?_ ?_ ?_
  · exact ⟨PIF.start _ _ _, ⟨rfl, rfl, rfl, Nat.le_refl _, fun _ _ => rfl⟩⟩
  rotate_left
  · as_aux_lemma =>
    refine ⟨?_, ?_, ?_, ?_, ?_, ?_, ?_, ?_, ?_, ?_, ?_, ?_, ?_, ?_, ?_, ?_, ?_, ?_, ?_, ?_, ?_, ?_, ?_, ?_, ?_, ?_, ?_, ?_, ?_, ?_, ?_, ?_, ?_, ?_, ?_, ?_, ?_, trivial⟩
    · intro L a w1 hI hi hd
      obtain ⟨hp, hw⟩ := hI
      have t1 := hp.at_ 1 _ rfl z1
      have t1' := t1
      rw [Array.getD_eq_getD_getElem?] at t1'
      exact rstep_valW (wanted_none rfl _) (.pointer (some ⟨g, 0, none⟩)) w1 (by go_simp) ⟨(hp.put 0 5 (.pointer (some ⟨g, 0, none⟩)) (by simp [rmtP]) (by simp [rmtP]) rfl (by rw [hsz0]; exact (by decide : 5 < 98))), hw⟩
    · intro L a w1 hI hi hd
      obtain ⟨hp, hw⟩ := hI
      simp [Region.binds] at hd
      have e0 : a.tmps.getD 5 undef = (.pointer (some ⟨g, 0, none⟩)) := hp.pu (0, 5, (.pointer (some ⟨g, 0, none⟩))) (by simp [rmtP]) (by simp [hd])
      have f0 : a.tmps[5]?.getD undef = (.pointer (some ⟨g, 0, none⟩)) := by rw [← Array.getD_eq_getD_getElem?]; exact e0
      obtain ⟨d0, d1, d2, d3, d4, d5, d6, d7, d8⟩ := (HX.out.below hw HX.out.lt).c9
      exact rstep_valW (wanted_none rfl _) (.int .i64 s.kind) w1 (by go_simp) ⟨(hp.put 1 6 (.int .i64 s.kind) (by simp [rmtP]) (by simp [rmtP]) rfl (by rw [hsz0]; exact (by decide : 6 < 98))), hw⟩
    · intro L a w1 hI hi hd
      obtain ⟨hp, hw⟩ := hI
      simp [Region.binds] at hd
      have e1 : a.tmps.getD 6 undef = (.int .i64 s.kind) := hp.pu (1, 6, (.int .i64 s.kind)) (by simp [rmtP]) (by simp [hd])
      have f1 : a.tmps[6]?.getD undef = (.int .i64 s.kind) := by rw [← Array.getD_eq_getD_getElem?]; exact e1
      have hq := H0.out
      exact rstep_valW (wanted_none rfl _) (.bool P1) w1 (by go_simp) ⟨(hp.put 2 7 (.bool P1) (by simp [rmtP]) (by simp [rmtP]) rfl (by rw [hsz0]; exact (by decide : 7 < 98))), hw⟩
    · intro L a w1 hI hi hd
      obtain ⟨hp, hw⟩ := hI
      simp [Region.binds] at hd
      have e2 : a.tmps.getD 7 undef = (.bool P1) := hp.pu (2, 7, (.bool P1)) (by simp [rmtP]) (by simp [hd])
      have f2 : a.tmps[7]?.getD undef = (.bool P1) := by rw [← Array.getD_eq_getD_getElem?]; exact e2
      exact rstep_valW (wanted_none rfl _) (.bool P1) w1 (by go_simp) ⟨(hp.put 3 8 (.bool P1) (by simp [rmtP]) (by simp [rmtP]) rfl (by rw [hsz0]; exact (by decide : 8 < 98))), hw⟩
    · intro L a w1 hI hi hd
      obtain ⟨hp, hw⟩ := hI
      simp [Region.binds] at hd
      have e3 : a.tmps.getD 8 undef = (.bool P1) := hp.pu (3, 8, (.bool P1)) (by simp [rmtP]) (by simp [hd])
      have f3 : a.tmps[8]?.getD undef = (.bool P1) := by rw [← Array.getD_eq_getD_getElem?]; exact e3
      have t1 := hp.at_ 1 _ rfl z1
      have t1' := t1
      rw [Array.getD_eq_getD_getElem?] at t1'
      cases P1 with
      | true =>
        try simp only [cond_true, cond_false] at e3 f3
        exact rstep_un (unwanted_of 3 8 false true (by decide) rfl rfl e3) ⟨(hp.put 4 9 undef (by simp [rmtP]) (by simp [rmtP]) rfl (by rw [hsz0]; exact (by decide : 9 < 98))), hw⟩
      | false =>
        try simp only [cond_true, cond_false] at e3 f3
        exact rstep_valW (wanted_of 3 8 false rfl rfl e3) (.pointer (some ⟨g, 0, none⟩)) w1 (by go_simp) ⟨(hp.put 4 9 (.pointer (some ⟨g, 0, none⟩)) (by simp [rmtP]) (by simp [rmtP]) rfl (by rw [hsz0]; exact (by decide : 9 < 98))), hw⟩
    · intro L a w1 hI hi hd
      obtain ⟨hp, hw⟩ := hI
      simp [Region.binds] at hd
      have e3 : a.tmps.getD 8 undef = (.bool P1) := hp.pu (3, 8, (.bool P1)) (by simp [rmtP]) (by simp [hd])
      have f3 : a.tmps[8]?.getD undef = (.bool P1) := by rw [← Array.getD_eq_getD_getElem?]; exact e3
      have e4 : a.tmps.getD 9 undef = (bif P1 then undef else (.pointer (some ⟨g, 0, none⟩))) := hp.pu (4, 9, (bif P1 then undef else (.pointer (some ⟨g, 0, none⟩)))) (by simp [rmtP]) (by simp [hd])
      have f4 : a.tmps[9]?.getD undef = (bif P1 then undef else (.pointer (some ⟨g, 0, none⟩))) := by rw [← Array.getD_eq_getD_getElem?]; exact e4
      cases P1 with
      | true =>
        try simp only [cond_true, cond_false] at e3 f3 e4 f4
        exact rstep_un (unwanted_of 3 8 false true (by decide) rfl rfl e3) ⟨(hp.put 5 10 undef (by simp [rmtP]) (by simp [rmtP]) rfl (by rw [hsz0]; exact (by decide : 10 < 98))), hw⟩
      | false =>
        try simp only [cond_true, cond_false] at e3 f3 e4 f4
        obtain ⟨d0, d1, d2, d3, d4, d5, d6, d7, d8⟩ := (HX.out.below hw HX.out.lt).c9
        exact rstep_valW (wanted_of 3 8 false rfl rfl e3) (.int .i64 s.kind) w1 (by go_simp) ⟨(hp.put 5 10 (.int .i64 s.kind) (by simp [rmtP]) (by simp [rmtP]) rfl (by rw [hsz0]; exact (by decide : 10 < 98))), hw⟩
    · intro L a w1 hI hi hd
      obtain ⟨hp, hw⟩ := hI
      simp [Region.binds] at hd
      have e3 : a.tmps.getD 8 undef = (.bool P1) := hp.pu (3, 8, (.bool P1)) (by simp [rmtP]) (by simp [hd])
      have f3 : a.tmps[8]?.getD undef = (.bool P1) := by rw [← Array.getD_eq_getD_getElem?]; exact e3
      have e5 : a.tmps.getD 10 undef = (bif P1 then undef else (.int .i64 s.kind)) := hp.pu (5, 10, (bif P1 then undef else (.int .i64 s.kind))) (by simp [rmtP]) (by simp [hd])
      have f5 : a.tmps[10]?.getD undef = (bif P1 then undef else (.int .i64 s.kind)) := by rw [← Array.getD_eq_getD_getElem?]; exact e5
      cases P1 with
      | true =>
        try simp only [cond_true, cond_false] at e3 f3 e5 f5
        exact rstep_un (unwanted_of 3 8 false true (by decide) rfl rfl e3) ⟨(hp.put 6 11 undef (by simp [rmtP]) (by simp [rmtP]) rfl (by rw [hsz0]; exact (by decide : 11 < 98))), hw⟩
      | false =>
        try simp only [cond_true, cond_false] at e3 f3 e5 f5
        have hq := H1.out.2 rfl
        exact rstep_valW (wanted_of 3 8 false rfl rfl e3) (.bool P2) w1 (by go_simp) ⟨(hp.put 6 11 (.bool P2) (by simp [rmtP]) (by simp [rmtP]) rfl (by rw [hsz0]; exact (by decide : 11 < 98))), hw⟩
    · intro L a w1 hI hi hd
      obtain ⟨hp, hw⟩ := hI
      simp [Region.binds] at hd
      have e3 : a.tmps.getD 8 undef = (.bool P1) := hp.pu (3, 8, (.bool P1)) (by simp [rmtP]) (by simp [hd])
      have f3 : a.tmps[8]?.getD undef = (.bool P1) := by rw [← Array.getD_eq_getD_getElem?]; exact e3
      have e6 : a.tmps.getD 11 undef = (bif P1 then undef else (.bool P2)) := hp.pu (6, 11, (bif P1 then undef else (.bool P2))) (by simp [rmtP]) (by simp [hd])
      have f6 : a.tmps[11]?.getD undef = (bif P1 then undef else (.bool P2)) := by rw [← Array.getD_eq_getD_getElem?]; exact e6
      cases P1 with
      | true =>
        try simp only [cond_true, cond_false] at e3 f3 e6 f6
        obtain rfl : P2 = true := H1.out.1 rfl
        exact rstep_valW (wanted_none rfl _) (.bool true) w1 (by go_simp) ⟨(hp.put 7 12 (.bool true) (by simp [rmtP]) (by simp [rmtP]) rfl (by rw [hsz0]; exact (by decide : 12 < 98))), hw⟩
      | false =>
        try simp only [cond_true, cond_false] at e3 f3 e6 f6
        exact rstep_valW (wanted_none rfl _) (.bool P2) w1 (by go_simp) ⟨(hp.put 7 12 (.bool P2) (by simp [rmtP]) (by simp [rmtP]) rfl (by rw [hsz0]; exact (by decide : 12 < 98))), hw⟩
    · intro L a w1 hI hi hd
      obtain ⟨hp, hw⟩ := hI
      simp [Region.binds] at hd
      have e7 : a.tmps.getD 12 undef = (.bool P2) := hp.pu (7, 12, (.bool P2)) (by simp [rmtP]) (by simp [hd])
      have f7 : a.tmps[12]?.getD undef = (.bool P2) := by rw [← Array.getD_eq_getD_getElem?]; exact e7
      exact rstep_valW (wanted_none rfl _) (.bool P2) w1 (by go_simp) ⟨(hp.put 8 13 (.bool P2) (by simp [rmtP]) (by simp [rmtP]) rfl (by rw [hsz0]; exact (by decide : 13 < 98))), hw⟩
    · intro L a w1 hI hi hd
      obtain ⟨hp, hw⟩ := hI
      simp [Region.binds] at hd
      have e8 : a.tmps.getD 13 undef = (.bool P2) := hp.pu (8, 13, (.bool P2)) (by simp [rmtP]) (by simp [hd])
      have f8 : a.tmps[13]?.getD undef = (.bool P2) := by rw [← Array.getD_eq_getD_getElem?]; exact e8
      have t1 := hp.at_ 1 _ rfl z1
      have t1' := t1
      rw [Array.getD_eq_getD_getElem?] at t1'
      cases P2 with
      | true =>
        try simp only [cond_true, cond_false] at e8 f8
        exact rstep_un (unwanted_of 8 13 false true (by decide) rfl rfl e8) ⟨(hp.put 9 14 undef (by simp [rmtP]) (by simp [rmtP]) rfl (by rw [hsz0]; exact (by decide : 14 < 98))), hw⟩
      | false =>
        try simp only [cond_true, cond_false] at e8 f8
        exact rstep_valW (wanted_of 8 13 false rfl rfl e8) (.agg s.cells) w1 (exec_load_row _ (.tmp 1) rfl g t1 _ _ _ (HX.out.below hw HX.out.lt) Try.underlying34 rfl (by kernel_rfl)) ⟨(hp.put 9 14 (.agg s.cells) (by simp [rmtP]) (by simp [rmtP]) rfl (by rw [hsz0]; exact (by decide : 14 < 98))), hw⟩
    · intro L a w1 hI hi hd
      obtain ⟨hp, hw⟩ := hI
      simp [Region.binds] at hd
      have e8 : a.tmps.getD 13 undef = (.bool P2) := hp.pu (8, 13, (.bool P2)) (by simp [rmtP]) (by simp [hd])
      have f8 : a.tmps[13]?.getD undef = (.bool P2) := by rw [← Array.getD_eq_getD_getElem?]; exact e8
      have t1 := hp.at_ 1 _ rfl z1
      have t1' := t1
      rw [Array.getD_eq_getD_getElem?] at t1'
      cases P2 with
      | true =>
        try simp only [cond_true, cond_false] at e8 f8
        exact rstep_un (unwanted_of 8 13 false true (by decide) rfl rfl e8) ⟨(hp.put 10 15 undef (by simp [rmtP]) (by simp [rmtP]) rfl (by rw [hsz0]; exact (by decide : 15 < 98))), hw⟩
      | false =>
        try simp only [cond_true, cond_false] at e8 f8
        exact rstep_valW (wanted_of 8 13 false rfl rfl e8) (.agg s.cells) w1 (exec_load_row _ (.tmp 1) rfl g t1 _ _ _ (HX.out.below hw HX.out.lt) Try.underlying34 rfl (by kernel_rfl)) ⟨(hp.put 10 15 (.agg s.cells) (by simp [rmtP]) (by simp [rmtP]) rfl (by rw [hsz0]; exact (by decide : 15 < 98))), hw⟩
    · intro L a w1 hI hi hd
      obtain ⟨hp, hw⟩ := hI
      simp [Region.binds] at hd
      have e8 : a.tmps.getD 13 undef = (.bool P2) := hp.pu (8, 13, (.bool P2)) (by simp [rmtP]) (by simp [hd])
      have f8 : a.tmps[13]?.getD undef = (.bool P2) := by rw [← Array.getD_eq_getD_getElem?]; exact e8
      have e10 : a.tmps.getD 15 undef = (bif P2 then undef else (.agg s.cells)) := hp.pu (10, 15, (bif P2 then undef else (.agg s.cells))) (by simp [rmtP]) (by simp [hd])
      have f10 : a.tmps[15]?.getD undef = (bif P2 then undef else (.agg s.cells)) := by rw [← Array.getD_eq_getD_getElem?]; exact e10
      cases P2 with
      | true =>
        try simp only [cond_true, cond_false] at e8 f8 e10 f10
        exact rstep_un (unwanted_of 8 13 false true (by decide) rfl rfl e8) ⟨(hp.put 11 16 undef (by simp [rmtP]) (by simp [rmtP]) rfl (by rw [hsz0]; exact (by decide : 16 < 98))), hw⟩
      | false =>
        try simp only [cond_true, cond_false] at e8 f8 e10 f10
        refine rstep_callW (wanted_of 8 13 false rfl rfl e8) 86 #[(.agg s.cells)] (by go_simp) ?_
        refine (baretell_any s w1).mono ?_
        rintro e w2 ⟨rfl, hb2⟩
        exact ⟨(hp.put 11 16 (.agg (Rpv.bare s).cells) (by simp [rmtP]) (by simp [rmtP]) rfl (by rw [hsz0]; exact (by decide : 16 < 98))), hw.trans (hb2.mono hw.size)⟩
    · intro L a w1 hI hi hd
      obtain ⟨hp, hw⟩ := hI
      simp [Region.binds] at hd
      have e8 : a.tmps.getD 13 undef = (.bool P2) := hp.pu (8, 13, (.bool P2)) (by simp [rmtP]) (by simp [hd])
      have f8 : a.tmps[13]?.getD undef = (.bool P2) := by rw [← Array.getD_eq_getD_getElem?]; exact e8
      have e9 : a.tmps.getD 14 undef = (bif P2 then undef else (.agg s.cells)) := hp.pu (9, 14, (bif P2 then undef else (.agg s.cells))) (by simp [rmtP]) (by simp [hd])
      have f9 : a.tmps[14]?.getD undef = (bif P2 then undef else (.agg s.cells)) := by rw [← Array.getD_eq_getD_getElem?]; exact e9
      have e11 : a.tmps.getD 16 undef = (bif P2 then undef else (.agg (Rpv.bare s).cells)) := hp.pu (11, 16, (bif P2 then undef else (.agg (Rpv.bare s).cells))) (by simp [rmtP]) (by simp [hd])
      have f11 : a.tmps[16]?.getD undef = (bif P2 then undef else (.agg (Rpv.bare s).cells)) := by rw [← Array.getD_eq_getD_getElem?]; exact e11
      cases P2 with
      | true =>
        try simp only [cond_true, cond_false] at e8 f8 e9 f9 e11 f11
        exact rstep_un (unwanted_of 8 13 false true (by decide) rfl rfl e8) ⟨(hp.put 12 17 undef (by simp [rmtP]) (by simp [rmtP]) rfl (by rw [hsz0]; exact (by decide : 17 < 98))), hw⟩
      | false =>
        try simp only [cond_true, cond_false] at e8 f8 e9 f9 e11 f11
        refine rstep_callW (wanted_of 8 13 false rfl rfl e8) 12 #[(.agg s.cells), (.agg (Rpv.bare s).cells)] (by go_simp) ?_
        refine (refsametell_any s (Rpv.bare s) w1 (HS.out.below hw) (HS.out.below hw).bare_).mono ?_
        rintro e w2 ⟨rfl, hb2⟩
        rw [Rpv.bare_x, show RepM.same s.x (RepM.bareR s.x) = !P3 from H2.out.2 rfl]
        exact ⟨(hp.put 12 17 (.bool (!P3)) (by simp [rmtP]) (by simp [rmtP]) rfl (by rw [hsz0]; exact (by decide : 17 < 98))), hw.trans (hb2.mono hw.size)⟩
    · intro L a w1 hI hi hd
      obtain ⟨hp, hw⟩ := hI
      simp [Region.binds] at hd
      have e8 : a.tmps.getD 13 undef = (.bool P2) := hp.pu (8, 13, (.bool P2)) (by simp [rmtP]) (by simp [hd])
      have f8 : a.tmps[13]?.getD undef = (.bool P2) := by rw [← Array.getD_eq_getD_getElem?]; exact e8
      have e12 : a.tmps.getD 17 undef = (bif P2 then undef else (.bool (!P3))) := hp.pu (12, 17, (bif P2 then undef else (.bool (!P3)))) (by simp [rmtP]) (by simp [hd])
      have f12 : a.tmps[17]?.getD undef = (bif P2 then undef else (.bool (!P3))) := by rw [← Array.getD_eq_getD_getElem?]; exact e12
      cases P2 with
      | true =>
        try simp only [cond_true, cond_false] at e8 f8 e12 f12
        exact rstep_un (unwanted_of 8 13 false true (by decide) rfl rfl e8) ⟨(hp.put 13 18 undef (by simp [rmtP]) (by simp [rmtP]) rfl (by rw [hsz0]; exact (by decide : 18 < 98))), hw⟩
      | false =>
        try simp only [cond_true, cond_false] at e8 f8 e12 f12
        exact rstep_valW (wanted_of 8 13 false rfl rfl e8) (.bool P3) w1 (by go_simp) ⟨(hp.put 13 18 (.bool P3) (by simp [rmtP]) (by simp [rmtP]) rfl (by rw [hsz0]; exact (by decide : 18 < 98))), hw⟩
    · intro L a w1 hI hi hd
      obtain ⟨hp, hw⟩ := hI
      simp [Region.binds] at hd
      have e8 : a.tmps.getD 13 undef = (.bool P2) := hp.pu (8, 13, (.bool P2)) (by simp [rmtP]) (by simp [hd])
      have f8 : a.tmps[13]?.getD undef = (.bool P2) := by rw [← Array.getD_eq_getD_getElem?]; exact e8
      have e13 : a.tmps.getD 18 undef = (bif P2 then undef else (.bool P3)) := hp.pu (13, 18, (bif P2 then undef else (.bool P3))) (by simp [rmtP]) (by simp [hd])
      have f13 : a.tmps[18]?.getD undef = (bif P2 then undef else (.bool P3)) := by rw [← Array.getD_eq_getD_getElem?]; exact e13
      cases P2 with
      | true =>
        try simp only [cond_true, cond_false] at e8 f8 e13 f13
        obtain rfl : P3 = true := H2.out.1 rfl
        exact rstep_valW (wanted_none rfl _) (.bool true) w1 (by go_simp) ⟨(hp.put 14 19 (.bool true) (by simp [rmtP]) (by simp [rmtP]) rfl (by rw [hsz0]; exact (by decide : 19 < 98))), hw⟩
      | false =>
        try simp only [cond_true, cond_false] at e8 f8 e13 f13
        exact rstep_valW (wanted_none rfl _) (.bool P3) w1 (by go_simp) ⟨(hp.put 14 19 (.bool P3) (by simp [rmtP]) (by simp [rmtP]) rfl (by rw [hsz0]; exact (by decide : 19 < 98))), hw⟩
    · intro L a w1 hI hi hd
      obtain ⟨hp, hw⟩ := hI
      simp [Region.binds] at hd
      have e14 : a.tmps.getD 19 undef = (.bool P3) := hp.pu (14, 19, (.bool P3)) (by simp [rmtP]) (by simp [hd])
      have f14 : a.tmps[19]?.getD undef = (.bool P3) := by rw [← Array.getD_eq_getD_getElem?]; exact e14
      exact rstep_valW (wanted_none rfl _) (.bool P3) w1 (by go_simp) ⟨(hp.put 15 20 (.bool P3) (by simp [rmtP]) (by simp [rmtP]) rfl (by rw [hsz0]; exact (by decide : 20 < 98))), hw⟩
    · intro L a w1 hI hi hd
      obtain ⟨hp, hw⟩ := hI
      simp [Region.binds] at hd
      have e15 : a.tmps.getD 20 undef = (.bool P3) := hp.pu (15, 20, (.bool P3)) (by simp [rmtP]) (by simp [hd])
      have f15 : a.tmps[20]?.getD undef = (.bool P3) := by rw [← Array.getD_eq_getD_getElem?]; exact e15
      have t1 := hp.at_ 1 _ rfl z1
      have t1' := t1
      rw [Array.getD_eq_getD_getElem?] at t1'
      cases P3 with
      | true =>
        try simp only [cond_true, cond_false] at e15 f15
        exact rstep_un (unwanted_of 15 20 false true (by decide) rfl rfl e15) ⟨(hp.put 16 21 undef (by simp [rmtP]) (by simp [rmtP]) rfl (by rw [hsz0]; exact (by decide : 21 < 98))), hw⟩
      | false =>
        try simp only [cond_true, cond_false] at e15 f15
        exact rstep_valW (wanted_of 15 20 false rfl rfl e15) (.pointer (some ⟨g, 1, none⟩)) w1 (by go_simp) ⟨(hp.put 16 21 (.pointer (some ⟨g, 1, none⟩)) (by simp [rmtP]) (by simp [rmtP]) rfl (by rw [hsz0]; exact (by decide : 21 < 98))), hw⟩
    · intro L a w1 hI hi hd
      obtain ⟨hp, hw⟩ := hI
      simp [Region.binds] at hd
      have e15 : a.tmps.getD 20 undef = (.bool P3) := hp.pu (15, 20, (.bool P3)) (by simp [rmtP]) (by simp [hd])
      have f15 : a.tmps[20]?.getD undef = (.bool P3) := by rw [← Array.getD_eq_getD_getElem?]; exact e15
      have e16 : a.tmps.getD 21 undef = (bif P3 then undef else (.pointer (some ⟨g, 1, none⟩))) := hp.pu (16, 21, (bif P3 then undef else (.pointer (some ⟨g, 1, none⟩)))) (by simp [rmtP]) (by simp [hd])
      have f16 : a.tmps[21]?.getD undef = (bif P3 then undef else (.pointer (some ⟨g, 1, none⟩))) := by rw [← Array.getD_eq_getD_getElem?]; exact e16
      cases P3 with
      | true =>
        try simp only [cond_true, cond_false] at e15 f15 e16 f16
        exact rstep_un (unwanted_of 15 20 false true (by decide) rfl rfl e15) ⟨(hp.put 17 22 undef (by simp [rmtP]) (by simp [rmtP]) rfl (by rw [hsz0]; exact (by decide : 22 < 98))), hw⟩
      | false =>
        try simp only [cond_true, cond_false] at e15 f15 e16 f16
        obtain ⟨d0, d1, d2, d3, d4, d5, d6, d7, d8⟩ := (HX.out.below hw HX.out.lt).c9
        exact rstep_valW (wanted_of 15 20 false rfl rfl e15) (.int .i64 s.mark) w1 (by go_simp) ⟨(hp.put 17 22 (.int .i64 s.mark) (by simp [rmtP]) (by simp [rmtP]) rfl (by rw [hsz0]; exact (by decide : 22 < 98))), hw⟩
    · intro L a w1 hI hi hd
      obtain ⟨hp, hw⟩ := hI
      simp [Region.binds] at hd
      have e15 : a.tmps.getD 20 undef = (.bool P3) := hp.pu (15, 20, (.bool P3)) (by simp [rmtP]) (by simp [hd])
      have f15 : a.tmps[20]?.getD undef = (.bool P3) := by rw [← Array.getD_eq_getD_getElem?]; exact e15
      have e17 : a.tmps.getD 22 undef = (bif P3 then undef else (.int .i64 s.mark)) := hp.pu (17, 22, (bif P3 then undef else (.int .i64 s.mark))) (by simp [rmtP]) (by simp [hd])
      have f17 : a.tmps[22]?.getD undef = (bif P3 then undef else (.int .i64 s.mark)) := by rw [← Array.getD_eq_getD_getElem?]; exact e17
      cases P3 with
      | true =>
        try simp only [cond_true, cond_false] at e15 f15 e17 f17
        exact rstep_un (unwanted_of 15 20 false true (by decide) rfl rfl e15) ⟨(hp.put 18 23 undef (by simp [rmtP]) (by simp [rmtP]) rfl (by rw [hsz0]; exact (by decide : 23 < 98))), hw⟩
      | false =>
        try simp only [cond_true, cond_false] at e15 f15 e17 f17
        have hq := H3.out.2 rfl
        exact rstep_valW (wanted_of 15 20 false rfl rfl e15) (.bool P4) w1 (by go_simp) ⟨(hp.put 18 23 (.bool P4) (by simp [rmtP]) (by simp [rmtP]) rfl (by rw [hsz0]; exact (by decide : 23 < 98))), hw⟩
    · intro L a w1 hI hi hd
      obtain ⟨hp, hw⟩ := hI
      simp [Region.binds] at hd
      have e15 : a.tmps.getD 20 undef = (.bool P3) := hp.pu (15, 20, (.bool P3)) (by simp [rmtP]) (by simp [hd])
      have f15 : a.tmps[20]?.getD undef = (.bool P3) := by rw [← Array.getD_eq_getD_getElem?]; exact e15
      have e18 : a.tmps.getD 23 undef = (bif P3 then undef else (.bool P4)) := hp.pu (18, 23, (bif P3 then undef else (.bool P4))) (by simp [rmtP]) (by simp [hd])
      have f18 : a.tmps[23]?.getD undef = (bif P3 then undef else (.bool P4)) := by rw [← Array.getD_eq_getD_getElem?]; exact e18
      cases P3 with
      | true =>
        try simp only [cond_true, cond_false] at e15 f15 e18 f18
        obtain rfl : P4 = true := H3.out.1 rfl
        exact rstep_valW (wanted_none rfl _) (.bool true) w1 (by go_simp) ⟨(hp.put 19 24 (.bool true) (by simp [rmtP]) (by simp [rmtP]) rfl (by rw [hsz0]; exact (by decide : 24 < 98))), hw⟩
      | false =>
        try simp only [cond_true, cond_false] at e15 f15 e18 f18
        exact rstep_valW (wanted_none rfl _) (.bool P4) w1 (by go_simp) ⟨(hp.put 19 24 (.bool P4) (by simp [rmtP]) (by simp [rmtP]) rfl (by rw [hsz0]; exact (by decide : 24 < 98))), hw⟩
    · intro L a w1 hI hi hd
      obtain ⟨hp, hw⟩ := hI
      simp [Region.binds] at hd
      have e19 : a.tmps.getD 24 undef = (.bool P4) := hp.pu (19, 24, (.bool P4)) (by simp [rmtP]) (by simp [hd])
      have f19 : a.tmps[24]?.getD undef = (.bool P4) := by rw [← Array.getD_eq_getD_getElem?]; exact e19
      exact rstep_valW (wanted_none rfl _) (.bool P4) w1 (by go_simp) ⟨(hp.put 20 25 (.bool P4) (by simp [rmtP]) (by simp [rmtP]) rfl (by rw [hsz0]; exact (by decide : 25 < 98))), hw⟩
    · intro L a w1 hI hi hd
      obtain ⟨hp, hw⟩ := hI
      simp [Region.binds] at hd
      have e20 : a.tmps.getD 25 undef = (.bool P4) := hp.pu (20, 25, (.bool P4)) (by simp [rmtP]) (by simp [hd])
      have f20 : a.tmps[25]?.getD undef = (.bool P4) := by rw [← Array.getD_eq_getD_getElem?]; exact e20
      have t1 := hp.at_ 1 _ rfl z1
      have t1' := t1
      rw [Array.getD_eq_getD_getElem?] at t1'
      cases P4 with
      | true =>
        try simp only [cond_true, cond_false] at e20 f20
        exact rstep_un (unwanted_of 20 25 false true (by decide) rfl rfl e20) ⟨(hp.put 21 26 undef (by simp [rmtP]) (by simp [rmtP]) rfl (by rw [hsz0]; exact (by decide : 26 < 98))), hw⟩
      | false =>
        try simp only [cond_true, cond_false] at e20 f20
        exact rstep_valW (wanted_of 20 25 false rfl rfl e20) (.pointer (some ⟨g, 1, none⟩)) w1 (by go_simp) ⟨(hp.put 21 26 (.pointer (some ⟨g, 1, none⟩)) (by simp [rmtP]) (by simp [rmtP]) rfl (by rw [hsz0]; exact (by decide : 26 < 98))), hw⟩
    · intro L a w1 hI hi hd
      obtain ⟨hp, hw⟩ := hI
      simp [Region.binds] at hd
      have e20 : a.tmps.getD 25 undef = (.bool P4) := hp.pu (20, 25, (.bool P4)) (by simp [rmtP]) (by simp [hd])
      have f20 : a.tmps[25]?.getD undef = (.bool P4) := by rw [← Array.getD_eq_getD_getElem?]; exact e20
      have e21 : a.tmps.getD 26 undef = (bif P4 then undef else (.pointer (some ⟨g, 1, none⟩))) := hp.pu (21, 26, (bif P4 then undef else (.pointer (some ⟨g, 1, none⟩)))) (by simp [rmtP]) (by simp [hd])
      have f21 : a.tmps[26]?.getD undef = (bif P4 then undef else (.pointer (some ⟨g, 1, none⟩))) := by rw [← Array.getD_eq_getD_getElem?]; exact e21
      cases P4 with
      | true =>
        try simp only [cond_true, cond_false] at e20 f20 e21 f21
        exact rstep_un (unwanted_of 20 25 false true (by decide) rfl rfl e20) ⟨(hp.put 22 27 undef (by simp [rmtP]) (by simp [rmtP]) rfl (by rw [hsz0]; exact (by decide : 27 < 98))), hw⟩
      | false =>
        try simp only [cond_true, cond_false] at e20 f20 e21 f21
        obtain ⟨d0, d1, d2, d3, d4, d5, d6, d7, d8⟩ := (HX.out.below hw HX.out.lt).c9
        exact rstep_valW (wanted_of 20 25 false rfl rfl e20) (.int .i64 s.mark) w1 (by go_simp) ⟨(hp.put 22 27 (.int .i64 s.mark) (by simp [rmtP]) (by simp [rmtP]) rfl (by rw [hsz0]; exact (by decide : 27 < 98))), hw⟩
    · intro L a w1 hI hi hd
      obtain ⟨hp, hw⟩ := hI
      simp [Region.binds] at hd
      have e20 : a.tmps.getD 25 undef = (.bool P4) := hp.pu (20, 25, (.bool P4)) (by simp [rmtP]) (by simp [hd])
      have f20 : a.tmps[25]?.getD undef = (.bool P4) := by rw [← Array.getD_eq_getD_getElem?]; exact e20
      have e22 : a.tmps.getD 27 undef = (bif P4 then undef else (.int .i64 s.mark)) := hp.pu (22, 27, (bif P4 then undef else (.int .i64 s.mark))) (by simp [rmtP]) (by simp [hd])
      have f22 : a.tmps[27]?.getD undef = (bif P4 then undef else (.int .i64 s.mark)) := by rw [← Array.getD_eq_getD_getElem?]; exact e22
      cases P4 with
      | true =>
        try simp only [cond_true, cond_false] at e20 f20 e22 f22
        exact rstep_un (unwanted_of 20 25 false true (by decide) rfl rfl e20) ⟨(hp.put 23 28 undef (by simp [rmtP]) (by simp [rmtP]) rfl (by rw [hsz0]; exact (by decide : 28 < 98))), hw⟩
      | false =>
        try simp only [cond_true, cond_false] at e20 f20 e22 f22
        have hq := H4.out.2 rfl
        exact rstep_valW (wanted_of 20 25 false rfl rfl e20) (.bool P5) w1 (by go_simp) ⟨(hp.put 23 28 (.bool P5) (by simp [rmtP]) (by simp [rmtP]) rfl (by rw [hsz0]; exact (by decide : 28 < 98))), hw⟩
    · intro L a w1 hI hi hd
      obtain ⟨hp, hw⟩ := hI
      simp [Region.binds] at hd
      have e20 : a.tmps.getD 25 undef = (.bool P4) := hp.pu (20, 25, (.bool P4)) (by simp [rmtP]) (by simp [hd])
      have f20 : a.tmps[25]?.getD undef = (.bool P4) := by rw [← Array.getD_eq_getD_getElem?]; exact e20
      have e23 : a.tmps.getD 28 undef = (bif P4 then undef else (.bool P5)) := hp.pu (23, 28, (bif P4 then undef else (.bool P5))) (by simp [rmtP]) (by simp [hd])
      have f23 : a.tmps[28]?.getD undef = (bif P4 then undef else (.bool P5)) := by rw [← Array.getD_eq_getD_getElem?]; exact e23
      cases P4 with
      | true =>
        try simp only [cond_true, cond_false] at e20 f20 e23 f23
        obtain rfl : P5 = true := H4.out.1 rfl
        exact rstep_valW (wanted_none rfl _) (.bool true) w1 (by go_simp) ⟨(hp.put 24 29 (.bool true) (by simp [rmtP]) (by simp [rmtP]) rfl (by rw [hsz0]; exact (by decide : 29 < 98))), hw⟩
      | false =>
        try simp only [cond_true, cond_false] at e20 f20 e23 f23
        exact rstep_valW (wanted_none rfl _) (.bool P5) w1 (by go_simp) ⟨(hp.put 24 29 (.bool P5) (by simp [rmtP]) (by simp [rmtP]) rfl (by rw [hsz0]; exact (by decide : 29 < 98))), hw⟩
    · intro L a w1 hI hi hd
      obtain ⟨hp, hw⟩ := hI
      simp [Region.binds] at hd
      have e24 : a.tmps.getD 29 undef = (.bool P5) := hp.pu (24, 29, (.bool P5)) (by simp [rmtP]) (by simp [hd])
      have f24 : a.tmps[29]?.getD undef = (.bool P5) := by rw [← Array.getD_eq_getD_getElem?]; exact e24
      exact rstep_valW (wanted_none rfl _) (.bool P5) w1 (by go_simp) ⟨(hp.put 25 30 (.bool P5) (by simp [rmtP]) (by simp [rmtP]) rfl (by rw [hsz0]; exact (by decide : 30 < 98))), hw⟩
    · intro L a w1 hI hi hd
      obtain ⟨hp, hw⟩ := hI
      simp [Region.binds] at hd
      have e25 : a.tmps.getD 30 undef = (.bool P5) := hp.pu (25, 30, (.bool P5)) (by simp [rmtP]) (by simp [hd])
      have f25 : a.tmps[30]?.getD undef = (.bool P5) := by rw [← Array.getD_eq_getD_getElem?]; exact e25
      have t1 := hp.at_ 1 _ rfl z1
      have t1' := t1
      rw [Array.getD_eq_getD_getElem?] at t1'
      cases P5 with
      | true =>
        try simp only [cond_true, cond_false] at e25 f25
        exact rstep_un (unwanted_of 25 30 false true (by decide) rfl rfl e25) ⟨(hp.put 26 31 undef (by simp [rmtP]) (by simp [rmtP]) rfl (by rw [hsz0]; exact (by decide : 31 < 98))), hw⟩
      | false =>
        try simp only [cond_true, cond_false] at e25 f25
        exact rstep_valW (wanted_of 25 30 false rfl rfl e25) (.pointer (some ⟨g, 7, none⟩)) w1 (by go_simp) ⟨(hp.put 26 31 (.pointer (some ⟨g, 7, none⟩)) (by simp [rmtP]) (by simp [rmtP]) rfl (by rw [hsz0]; exact (by decide : 31 < 98))), hw⟩
    · intro L a w1 hI hi hd
      obtain ⟨hp, hw⟩ := hI
      simp [Region.binds] at hd
      have e25 : a.tmps.getD 30 undef = (.bool P5) := hp.pu (25, 30, (.bool P5)) (by simp [rmtP]) (by simp [hd])
      have f25 : a.tmps[30]?.getD undef = (.bool P5) := by rw [← Array.getD_eq_getD_getElem?]; exact e25
      have e26 : a.tmps.getD 31 undef = (bif P5 then undef else (.pointer (some ⟨g, 7, none⟩))) := hp.pu (26, 31, (bif P5 then undef else (.pointer (some ⟨g, 7, none⟩)))) (by simp [rmtP]) (by simp [hd])
      have f26 : a.tmps[31]?.getD undef = (bif P5 then undef else (.pointer (some ⟨g, 7, none⟩))) := by rw [← Array.getD_eq_getD_getElem?]; exact e26
      cases P5 with
      | true =>
        try simp only [cond_true, cond_false] at e25 f25 e26 f26
        exact rstep_un (unwanted_of 25 30 false true (by decide) rfl rfl e25) ⟨(hp.put 27 32 undef (by simp [rmtP]) (by simp [rmtP]) rfl (by rw [hsz0]; exact (by decide : 32 < 98))), hw⟩
      | false =>
        try simp only [cond_true, cond_false] at e25 f25 e26 f26
        obtain ⟨d0, d1, d2, d3, d4, d5, d6, d7, d8⟩ := (HX.out.below hw HX.out.lt).c9
        exact rstep_valW (wanted_of 25 30 false rfl rfl e25) (.slice s.IA s.its.length s.ic) w1 (by go_simp) ⟨(hp.put 27 32 (.slice s.IA s.its.length s.ic) (by simp [rmtP]) (by simp [rmtP]) rfl (by rw [hsz0]; exact (by decide : 32 < 98))), hw⟩
    · intro L a w1 hI hi hd
      obtain ⟨hp, hw⟩ := hI
      simp [Region.binds] at hd
      have e25 : a.tmps.getD 30 undef = (.bool P5) := hp.pu (25, 30, (.bool P5)) (by simp [rmtP]) (by simp [hd])
      have f25 : a.tmps[30]?.getD undef = (.bool P5) := by rw [← Array.getD_eq_getD_getElem?]; exact e25
      have e27 : a.tmps.getD 32 undef = (bif P5 then undef else (.slice s.IA s.its.length s.ic)) := hp.pu (27, 32, (bif P5 then undef else (.slice s.IA s.its.length s.ic))) (by simp [rmtP]) (by simp [hd])
      have f27 : a.tmps[32]?.getD undef = (bif P5 then undef else (.slice s.IA s.its.length s.ic)) := by rw [← Array.getD_eq_getD_getElem?]; exact e27
      cases P5 with
      | true =>
        try simp only [cond_true, cond_false] at e25 f25 e27 f27
        exact rstep_un (unwanted_of 25 30 false true (by decide) rfl rfl e25) ⟨(hp.put 28 33 undef (by simp [rmtP]) (by simp [rmtP]) rfl (by rw [hsz0]; exact (by decide : 33 < 98))), hw⟩
      | false =>
        try simp only [cond_true, cond_false] at e25 f25 e27 f27
        exact rstep_valW (wanted_of 25 30 false rfl rfl e25) (.int .i64 (s.its.length : Int)) w1 (by go_simp) ⟨(hp.put 28 33 (.int .i64 (s.its.length : Int)) (by simp [rmtP]) (by simp [rmtP]) rfl (by rw [hsz0]; exact (by decide : 33 < 98))), hw⟩
    · intro L a w1 hI hi hd
      obtain ⟨hp, hw⟩ := hI
      simp [Region.binds] at hd
      have e25 : a.tmps.getD 30 undef = (.bool P5) := hp.pu (25, 30, (.bool P5)) (by simp [rmtP]) (by simp [hd])
      have f25 : a.tmps[30]?.getD undef = (.bool P5) := by rw [← Array.getD_eq_getD_getElem?]; exact e25
      have e28 : a.tmps.getD 33 undef = (bif P5 then undef else (.int .i64 (s.its.length : Int))) := hp.pu (28, 33, (bif P5 then undef else (.int .i64 (s.its.length : Int)))) (by simp [rmtP]) (by simp [hd])
      have f28 : a.tmps[33]?.getD undef = (bif P5 then undef else (.int .i64 (s.its.length : Int))) := by rw [← Array.getD_eq_getD_getElem?]; exact e28
      cases P5 with
      | true =>
        try simp only [cond_true, cond_false] at e25 f25 e28 f28
        exact rstep_un (unwanted_of 25 30 false true (by decide) rfl rfl e25) ⟨(hp.put 29 34 undef (by simp [rmtP]) (by simp [rmtP]) rfl (by rw [hsz0]; exact (by decide : 34 < 98))), hw⟩
      | false =>
        try simp only [cond_true, cond_false] at e25 f25 e28 f28
        have hq := H5.out.2 rfl
        exact rstep_valW (wanted_of 25 30 false rfl rfl e25) (.bool P6) w1 (by go_simp) ⟨(hp.put 29 34 (.bool P6) (by simp [rmtP]) (by simp [rmtP]) rfl (by rw [hsz0]; exact (by decide : 34 < 98))), hw⟩
    · intro L a w1 hI hi hd
      obtain ⟨hp, hw⟩ := hI
      simp [Region.binds] at hd
      have e25 : a.tmps.getD 30 undef = (.bool P5) := hp.pu (25, 30, (.bool P5)) (by simp [rmtP]) (by simp [hd])
      have f25 : a.tmps[30]?.getD undef = (.bool P5) := by rw [← Array.getD_eq_getD_getElem?]; exact e25
      have e29 : a.tmps.getD 34 undef = (bif P5 then undef else (.bool P6)) := hp.pu (29, 34, (bif P5 then undef else (.bool P6))) (by simp [rmtP]) (by simp [hd])
      have f29 : a.tmps[34]?.getD undef = (bif P5 then undef else (.bool P6)) := by rw [← Array.getD_eq_getD_getElem?]; exact e29
      cases P5 with
      | true =>
        try simp only [cond_true, cond_false] at e25 f25 e29 f29
        obtain rfl : P6 = true := H5.out.1 rfl
        exact rstep_valW (wanted_none rfl _) (.bool true) w1 (by go_simp) ⟨(hp.put 30 35 (.bool true) (by simp [rmtP]) (by simp [rmtP]) rfl (by rw [hsz0]; exact (by decide : 35 < 98))), hw⟩
      | false =>
        try simp only [cond_true, cond_false] at e25 f25 e29 f29
        exact rstep_valW (wanted_none rfl _) (.bool P6) w1 (by go_simp) ⟨(hp.put 30 35 (.bool P6) (by simp [rmtP]) (by simp [rmtP]) rfl (by rw [hsz0]; exact (by decide : 35 < 98))), hw⟩
    · intro L a w1 hI hi hd
      obtain ⟨hp, hw⟩ := hI
      simp [Region.binds] at hd
      have e30 : a.tmps.getD 35 undef = (.bool P6) := hp.pu (30, 35, (.bool P6)) (by simp [rmtP]) (by simp [hd])
      have f30 : a.tmps[35]?.getD undef = (.bool P6) := by rw [← Array.getD_eq_getD_getElem?]; exact e30
      exact rstep_valW (wanted_none rfl _) (.bool P6) w1 (by go_simp) ⟨(hp.put 31 36 (.bool P6) (by simp [rmtP]) (by simp [rmtP]) rfl (by rw [hsz0]; exact (by decide : 36 < 98))), hw⟩
    · intro L a w1 hI hi hd
      obtain ⟨hp, hw⟩ := hI
      simp [Region.binds] at hd
      have e31 : a.tmps.getD 36 undef = (.bool P6) := hp.pu (31, 36, (.bool P6)) (by simp [rmtP]) (by simp [hd])
      have f31 : a.tmps[36]?.getD undef = (.bool P6) := by rw [← Array.getD_eq_getD_getElem?]; exact e31
      have t1 := hp.at_ 1 _ rfl z1
      have t1' := t1
      rw [Array.getD_eq_getD_getElem?] at t1'
      cases P6 with
      | true =>
        try simp only [cond_true, cond_false] at e31 f31
        exact rstep_un (unwanted_of 31 36 false true (by decide) rfl rfl e31) ⟨(hp.put 32 37 undef (by simp [rmtP]) (by simp [rmtP]) rfl (by rw [hsz0]; exact (by decide : 37 < 98))), hw⟩
      | false =>
        try simp only [cond_true, cond_false] at e31 f31
        exact rstep_valW (wanted_of 31 36 false rfl rfl e31) (.pointer (some ⟨g, 8, none⟩)) w1 (by go_simp) ⟨(hp.put 32 37 (.pointer (some ⟨g, 8, none⟩)) (by simp [rmtP]) (by simp [rmtP]) rfl (by rw [hsz0]; exact (by decide : 37 < 98))), hw⟩
    · intro L a w1 hI hi hd
      obtain ⟨hp, hw⟩ := hI
      simp [Region.binds] at hd
      have e31 : a.tmps.getD 36 undef = (.bool P6) := hp.pu (31, 36, (.bool P6)) (by simp [rmtP]) (by simp [hd])
      have f31 : a.tmps[36]?.getD undef = (.bool P6) := by rw [← Array.getD_eq_getD_getElem?]; exact e31
      have e32 : a.tmps.getD 37 undef = (bif P6 then undef else (.pointer (some ⟨g, 8, none⟩))) := hp.pu (32, 37, (bif P6 then undef else (.pointer (some ⟨g, 8, none⟩)))) (by simp [rmtP]) (by simp [hd])
      have f32 : a.tmps[37]?.getD undef = (bif P6 then undef else (.pointer (some ⟨g, 8, none⟩))) := by rw [← Array.getD_eq_getD_getElem?]; exact e32
      cases P6 with
      | true =>
        try simp only [cond_true, cond_false] at e31 f31 e32 f32
        exact rstep_un (unwanted_of 31 36 false true (by decide) rfl rfl e31) ⟨(hp.put 33 38 undef (by simp [rmtP]) (by simp [rmtP]) rfl (by rw [hsz0]; exact (by decide : 38 < 98))), hw⟩
      | false =>
        try simp only [cond_true, cond_false] at e31 f31 e32 f32
        obtain ⟨d0, d1, d2, d3, d4, d5, d6, d7, d8⟩ := (HX.out.below hw HX.out.lt).c9
        exact rstep_valW (wanted_of 31 36 false rfl rfl e31) (.slice s.HA s.hits.length s.hc) w1 (by go_simp) ⟨(hp.put 33 38 (.slice s.HA s.hits.length s.hc) (by simp [rmtP]) (by simp [rmtP]) rfl (by rw [hsz0]; exact (by decide : 38 < 98))), hw⟩
    · intro L a w1 hI hi hd
      obtain ⟨hp, hw⟩ := hI
      simp [Region.binds] at hd
      have e31 : a.tmps.getD 36 undef = (.bool P6) := hp.pu (31, 36, (.bool P6)) (by simp [rmtP]) (by simp [hd])
      have f31 : a.tmps[36]?.getD undef = (.bool P6) := by rw [← Array.getD_eq_getD_getElem?]; exact e31
      have e33 : a.tmps.getD 38 undef = (bif P6 then undef else (.slice s.HA s.hits.length s.hc)) := hp.pu (33, 38, (bif P6 then undef else (.slice s.HA s.hits.length s.hc))) (by simp [rmtP]) (by simp [hd])
      have f33 : a.tmps[38]?.getD undef = (bif P6 then undef else (.slice s.HA s.hits.length s.hc)) := by rw [← Array.getD_eq_getD_getElem?]; exact e33
      cases P6 with
      | true =>
        try simp only [cond_true, cond_false] at e31 f31 e33 f33
        exact rstep_un (unwanted_of 31 36 false true (by decide) rfl rfl e31) ⟨(hp.put 34 39 undef (by simp [rmtP]) (by simp [rmtP]) rfl (by rw [hsz0]; exact (by decide : 39 < 98))), hw⟩
      | false =>
        try simp only [cond_true, cond_false] at e31 f31 e33 f33
        exact rstep_valW (wanted_of 31 36 false rfl rfl e31) (.int .i64 (s.hits.length : Int)) w1 (by go_simp) ⟨(hp.put 34 39 (.int .i64 (s.hits.length : Int)) (by simp [rmtP]) (by simp [rmtP]) rfl (by rw [hsz0]; exact (by decide : 39 < 98))), hw⟩
    · intro L a w1 hI hi hd
      obtain ⟨hp, hw⟩ := hI
      simp [Region.binds] at hd
      have e31 : a.tmps.getD 36 undef = (.bool P6) := hp.pu (31, 36, (.bool P6)) (by simp [rmtP]) (by simp [hd])
      have f31 : a.tmps[36]?.getD undef = (.bool P6) := by rw [← Array.getD_eq_getD_getElem?]; exact e31
      have e34 : a.tmps.getD 39 undef = (bif P6 then undef else (.int .i64 (s.hits.length : Int))) := hp.pu (34, 39, (bif P6 then undef else (.int .i64 (s.hits.length : Int)))) (by simp [rmtP]) (by simp [hd])
      have f34 : a.tmps[39]?.getD undef = (bif P6 then undef else (.int .i64 (s.hits.length : Int))) := by rw [← Array.getD_eq_getD_getElem?]; exact e34
      cases P6 with
      | true =>
        try simp only [cond_true, cond_false] at e31 f31 e34 f34
        exact rstep_un (unwanted_of 31 36 false true (by decide) rfl rfl e31) ⟨(hp.put 35 40 undef (by simp [rmtP]) (by simp [rmtP]) rfl (by rw [hsz0]; exact (by decide : 40 < 98))), hw⟩
      | false =>
        try simp only [cond_true, cond_false] at e31 f31 e34 f34
        have hq := H6.out.2 rfl
        exact rstep_valW (wanted_of 31 36 false rfl rfl e31) (.bool P7) w1 (by go_simp) ⟨(hp.put 35 40 (.bool P7) (by simp [rmtP]) (by simp [rmtP]) rfl (by rw [hsz0]; exact (by decide : 40 < 98))), hw⟩
    · intro L a w1 hI hi hd
      obtain ⟨hp, hw⟩ := hI
      simp [Region.binds] at hd
      have e31 : a.tmps.getD 36 undef = (.bool P6) := hp.pu (31, 36, (.bool P6)) (by simp [rmtP]) (by simp [hd])
      have f31 : a.tmps[36]?.getD undef = (.bool P6) := by rw [← Array.getD_eq_getD_getElem?]; exact e31
      have e35 : a.tmps.getD 40 undef = (bif P6 then undef else (.bool P7)) := hp.pu (35, 40, (bif P6 then undef else (.bool P7))) (by simp [rmtP]) (by simp [hd])
      have f35 : a.tmps[40]?.getD undef = (bif P6 then undef else (.bool P7)) := by rw [← Array.getD_eq_getD_getElem?]; exact e35
      cases P6 with
      | true =>
        try simp only [cond_true, cond_false] at e31 f31 e35 f35
        obtain rfl : P7 = true := H6.out.1 rfl
        exact rstep_valW (wanted_none rfl _) (.bool true) w1 (by go_simp) ⟨(hp.put 36 41 (.bool true) (by simp [rmtP]) (by simp [rmtP]) rfl (by rw [hsz0]; exact (by decide : 41 < 98))), hw⟩
      | false =>
        try simp only [cond_true, cond_false] at e31 f31 e35 f35
        exact rstep_valW (wanted_none rfl _) (.bool P7) w1 (by go_simp) ⟨(hp.put 36 41 (.bool P7) (by simp [rmtP]) (by simp [rmtP]) rfl (by rw [hsz0]; exact (by decide : 41 < 98))), hw⟩
  rintro L a W0 ⟨hp, hw⟩ hL
  have e36 : a.tmps.getD 41 undef = (.bool P7) := hp.pu (36, 41, _) (by simp [rmtP]) (hL 36 (by simp))
  have HXW := Lib.hid (HX.out.below hw HX.out.lt)
  have B1 := Lib.hid (below_join B0.out hw)
  have HSW := Lib.hid (HS.out.below hw)
  clear hw HX HS
  rw [hp.eq]
  refine of_assigns (P := Try.prog) _ _ _ _ ?_
  rw [ha0.out]
  simp only [asgs, List.map, e36]
  generalize a.tmps.getD 5 undef = u5
  generalize a.tmps.getD 6 undef = u6
  generalize a.tmps.getD 7 undef = u7
  generalize a.tmps.getD 8 undef = u8
  generalize a.tmps.getD 9 undef = u9
  generalize a.tmps.getD 10 undef = u10
  generalize a.tmps.getD 11 undef = u11
  generalize a.tmps.getD 12 undef = u12
  generalize a.tmps.getD 13 undef = u13
  generalize a.tmps.getD 14 undef = u14
  generalize a.tmps.getD 15 undef = u15
  generalize a.tmps.getD 16 undef = u16
  generalize a.tmps.getD 17 undef = u17
  generalize a.tmps.getD 18 undef = u18
  generalize a.tmps.getD 19 undef = u19
  generalize a.tmps.getD 20 undef = u20
  generalize a.tmps.getD 21 undef = u21
  generalize a.tmps.getD 22 undef = u22
  generalize a.tmps.getD 23 undef = u23
  generalize a.tmps.getD 24 undef = u24
  generalize a.tmps.getD 25 undef = u25
  generalize a.tmps.getD 26 undef = u26
  generalize a.tmps.getD 27 undef = u27
  generalize a.tmps.getD 28 undef = u28
  generalize a.tmps.getD 29 undef = u29
  generalize a.tmps.getD 30 undef = u30
  generalize a.tmps.getD 31 undef = u31
  generalize a.tmps.getD 32 undef = u32
  generalize a.tmps.getD 33 undef = u33
  generalize a.tmps.getD 34 undef = u34
  generalize a.tmps.getD 35 undef = u35
  generalize a.tmps.getD 36 undef = u36
  generalize a.tmps.getD 37 undef = u37
  generalize a.tmps.getD 38 undef = u38
  generalize a.tmps.getD 39 undef = u39
  generalize a.tmps.getD 40 undef = u40
  clear hp hL hsz0 e36 z1
  clear ha0
  cases P7 with
  | true =>
    have hno : Hid (bm ≠ true) := Lib.hid (fun h : bm = true => absurd (H7.out.1 (HBM.out.trans h)).1 (by decide))
    go_wp2
    go_ret
    exact BoolP.ff hno.out B1.out
  | false =>
    have HD : Hid (bm = true ↔ RepM.restOk s.x) := Lib.hid (by rw [← HBM.out]; exact H7.out.trans ⟨fun q => q.2, fun q => ⟨rfl, q⟩⟩)
    have hmx : maxLen ≤ 9223372036854775807 := by unfold maxLen; omega
    have HMX := Lib.hid hmx
    obtain ⟨n, hn⟩ : ∃ n, s.its.length = n := ⟨_, rfl⟩
    obtain ⟨m, hm⟩ : ∃ m, s.hits.length = m := ⟨_, rfl⟩
    have HN := Lib.hid hn
    have HM := Lib.hid hm
    have hnm : n ≤ 9223372036854775807 ∧ m ≤ 9223372036854775807 := by have := HSW.out.lI; have := HSW.out.mI; have := HSW.out.lH; have := HSW.out.mH; omega
    obtain ⟨hn63, hm63⟩ := hnm
    clear hmx hn hm
    go_wp2
    go_loopw [3] (fun i wr => ∃ k : Nat, i = .int .i64 (k : Int) ∧ k ≤ n ∧ Below W0.heap.size W0 wr ∧ Hid (∀ j, j < k → ∀ t, s.its[j]? = some t → ItemM.may t.x = 0)) (fun i _ => n - (RowKit.intOf i).toNat)
    case atStart => exact ⟨0, rfl, Nat.zero_le _, Below.refl _ _, Lib.hid fun j hj => by omega⟩
    case round =>
      obtain ⟨k, rfl, hk, hbel, HA⟩ := hrel
      have HB := Lib.hid hbel
      have d7 := (HXW.out.below hbel HXW.out.lt).c9.2.2.2.2.2.2.2.1
      rw [HN.out] at d7
      by_cases hlt : k < n
      · obtain ⟨t, ht⟩ : ∃ t, s.its[k]? = some t := ⟨_, List.getElem?_eq_getElem (by rw [HN.out]; exact hlt)⟩
        obtain ⟨b, o, hA, e1, e2, e3⟩ := row_itv (HSW.out.rI.below hbel) ht
        rw [hA] at d7
        have tA := HSW.out.aI t (List.mem_of_getElem? ht)
        have HC := Lib.hid (refmay_any (t.x.key : Int) t.A t.A2 t.x.vec.length t.c t.x.note.length t.c2 wr (by have := tA.l1; have := tA.m1; have := HMX.out; omega) (by have := tA.l2; have := tA.m2; have := HMX.out; omega))
        have HT := Lib.hid ht
        clear hbel hA tA ht
        go_wp2_with fail
        refine HC.out.mono ?_
        rintro e W1 ⟨rfl, hb⟩
        rw [show (if t.x.vec.length = 0 ∨ 4096 < t.x.vec.length then 9 else if 1024 < t.x.note.length then 3 else 0 : Nat) = ItemM.may t.x from rfl]
        obtain ⟨mm, hmm⟩ : ∃ q, ItemM.may t.x = q := ⟨_, rfl⟩
        rw [hmm]
        have HMM := Lib.hid hmm
        have B2 := Lib.hid (below_join HB.out hb)
        clear hb HC hmm d7 e1 e2 e3
        by_cases hz : mm = 0
        · subst hz
          go_wp2
          go_roundw
          case rel =>
            refine ⟨k + 1, by go_num, by omega, B2.out, Lib.hid fun j hj u hu => ?_⟩
            by_cases e : j = k
            · subst e; rw [HT.out] at hu; injection hu with hu; rw [← hu]; exact HMM.out
            · exact HA.out j (by omega) u hu
          case measure => simp [RowKit.intOf]; omega
        · have hzz : ((mm : Int) != 0) = true := by simpa using hz
          have hno : Hid (bm ≠ true) := Lib.hid fun h => hz (HMM.out.symm.trans ((HD.out.1 h).1 t.x (List.mem_map_of_mem (List.mem_of_getElem? HT.out))))
          go_wp2
          go_ret
          exact BoolP.ff hno.out (below_join B1.out B2.out)
      · obtain rfl : k = n := by omega
        have HAI : Hid (∀ i ∈ s.x.its, ItemM.may i = 0) := Lib.hid (by
          intro i hi
          obtain ⟨t, ht, rfl⟩ := List.mem_map.1 hi
          obtain ⟨j, hj, hjt⟩ := List.getElem_of_mem ht
          exact HA.out j (by rw [← HN.out]; exact hj) t (by rw [List.getElem?_eq_getElem hj, hjt]))
        have B2 := Lib.hid (below_join B1.out hbel)
        have HX2 := Lib.hid (HXW.out.below hbel HXW.out.lt)
        have HS2 := Lib.hid (HSW.out.below hbel)
        obtain ⟨V1, hV1⟩ : ∃ V, V = wr := ⟨_, rfl⟩
        have d7' := d7
        clear hbel HA HB HXW HSW B1
        go_upto_region 8 with fail
        clear d7 d7'
        subst hV1
        go_wp2
        go_loopw [4] (fun i wr => ∃ k : Nat, i = .int .i64 (k : Int) ∧ k ≤ m ∧ Below V1.heap.size V1 wr ∧ Hid (∀ j, j < k → ∀ t, s.hits[j]? = some t → 0 ≤ t.2)) (fun i _ => m - (RowKit.intOf i).toNat)
        case atStart => exact ⟨0, rfl, Nat.zero_le _, Below.refl _ _, Lib.hid fun j hj => by omega⟩
        case round =>
          obtain ⟨k, rfl, hk, hbel, HA⟩ := hrel
          have HB := Lib.hid hbel
          have d8 := (HX2.out.below hbel HX2.out.lt).c9.2.2.2.2.2.2.2.2
          rw [HM.out] at d8
          by_cases hlt : k < m
          · obtain ⟨⟨ta, td⟩, ht⟩ : ∃ t, s.hits[k]? = some t := ⟨_, List.getElem?_eq_getElem (by rw [HM.out]; exact hlt)⟩
            obtain ⟨b, o, hA, e1, e2⟩ := row_hit (HS2.out.rH.below hbel) ht
            rw [hA] at d8
            have HT := Lib.hid ht
            clear hbel hA ht
            dsimp only at e1 e2
            by_cases hz : td < 0
            · have hno : Hid (bm ≠ true) := Lib.hid fun h => by have := (HD.out.1 h).2.1 (ta, td) (List.mem_of_getElem? HT.out); simp only at this; omega
              go_wp2
              go_ret
              exact BoolP.ff hno.out (below_join B2.out HB.out)
            · go_wp2
              go_roundw
              case rel =>
                refine ⟨k + 1, by go_num, by omega, HB.out, Lib.hid fun j hj u hu => ?_⟩
                by_cases e : j = k
                · subst e; rw [HT.out] at hu; injection hu with hu; rw [← hu]; simp only; omega
                · exact HA.out j (by omega) u hu
              case measure => simp [RowKit.intOf]; omega
          · obtain rfl : k = m := by omega
            have HAH : Hid (∀ h ∈ s.x.hits, 0 ≤ h.2) := Lib.hid (by
              intro h hh
              obtain ⟨j, hj, hjt⟩ := List.getElem_of_mem hh
              have hj' : j < s.hits.length := hj
              exact HA.out j (by rw [← HM.out]; exact hj') h (by rw [List.getElem?_eq_getElem hj']; exact congrArg some hjt))
            have B3 := Lib.hid (below_join B2.out hbel)
            have HX3 := Lib.hid (HX2.out.below hbel HX2.out.lt)
            have HS3 := Lib.hid (HS2.out.below hbel)
            clear hbel HA HB HX2 HS2 B2
            by_cases k2 : s.kind = 2
            · have hb : bm = decide ((1 ≤ s.errno ∧ s.errno ≤ 255) ∧ 0 ≤ s.place ∧ s.place ≤ 4095) := Bool.eq_iff_iff.2 (HD.out.trans ⟨fun q => decide_eq_true (q.2.2.1 k2), fun q => ⟨HAI.out, HAH.out, fun _ => of_decide_eq_true q, fun q2 => absurd (k2.symm.trans q2) (by decide)⟩⟩)
              have HBB := Lib.hid hb
              clear hb
              go_upto_region 13 with fail
              clear d8
              obtain ⟨d0, d1, d2, d3, d4, d5, d6, d7, d8⟩ := HX3.out.c9
              clear d1 d4 d5 d6 d7 d8
              rw [k2] at d0
              by_cases q1 : 1 ≤ s.errno
              · by_cases q2 : s.errno ≤ 255
                · by_cases q3 : 0 ≤ s.place
                  · by_cases q4 : s.place ≤ 4095
                    · go_wp2
                      go_ret
                      exact BoolP.tt (by rw [HBB.out]; exact decide_eq_true ⟨⟨q1, q2⟩, q3, q4⟩) B3.out
                    · go_wp2
                      go_ret
                      exact BoolP.ff (fun h => by have h2 := of_decide_eq_true (HBB.out.symm.trans h); omega) B3.out
                  · go_wp2
                    go_ret
                    exact BoolP.ff (fun h => by have h2 := of_decide_eq_true (HBB.out.symm.trans h); omega) B3.out
                · go_wp2
                  go_ret
                  exact BoolP.ff (fun h => by have h2 := of_decide_eq_true (HBB.out.symm.trans h); omega) B3.out
              · go_wp2
                go_ret
                exact BoolP.ff (fun h => by have h2 := of_decide_eq_true (HBB.out.symm.trans h); omega) B3.out
            · by_cases k3 : s.kind = 3
              · have hb : bm = decide (ItemM.may s.it.x = 0) := Bool.eq_iff_iff.2 (HD.out.trans ⟨fun q => decide_eq_true (q.2.2.2 k3), fun q => ⟨HAI.out, HAH.out, fun q2 => absurd q2 k2, fun _ => of_decide_eq_true q⟩⟩)
                have HBB := Lib.hid hb
                clear hb
                go_upto_region 13 with fail
                clear d8
                obtain ⟨d0, d1, d2, d3, d4, d5, d6, d7, d8⟩ := HX3.out.c9
                clear d1 d2 d3 d7 d8
                rw [k3] at d0
                have hi := HS3.out.hi
                have HC := Lib.hid (refmay_any (s.it.x.key : Int) s.it.A s.it.A2 s.it.x.vec.length s.it.c s.it.x.note.length s.it.c2 wr (by have := hi.l1; have := hi.m1; have := HMX.out; omega) (by have := hi.l2; have := hi.m2; have := HMX.out; omega))
                clear hi k2
                go_wp2_with fail
                refine HC.out.mono ?_
                rintro e W1 ⟨rfl, hb⟩
                rw [show (if s.it.x.vec.length = 0 ∨ 4096 < s.it.x.vec.length then 9 else if 1024 < s.it.x.note.length then 3 else 0 : Nat) = ItemM.may s.it.x from rfl]
                generalize ItemM.may s.it.x = mm at *
                have B4 := Lib.hid (below_join B3.out hb)
                clear hb HC d0 d4 d5 d6
                by_cases hz : mm = 0
                · subst hz
                  go_wp2
                  go_ret
                  exact BoolP.tt (by rw [HBB.out]; rfl) B4.out
                · have hzz : ((mm : Int) == 0) = false := beq_eq_false_iff_ne.2 (by omega)
                  have HZ := Lib.hid hz
                  go_wp2
                  go_ret
                  exact BoolP.ff (fun h => HZ.out (of_decide_eq_true (HBB.out.symm.trans h))) B4.out
              · have hb : bm = true := HD.out.2 ⟨HAI.out, HAH.out, fun q2 => absurd q2 k2, fun q3 => absurd q3 k3⟩
                have HBB := Lib.hid hb
                have h2 : (s.kind == 2) = false := beq_eq_false_iff_ne.2 k2
                have h3 : (s.kind == 3) = false := beq_eq_false_iff_ne.2 k3
                clear hb
                go_upto_region 13 with fail
                clear d8
                have d0 := HX3.out.c9.1
                go_wp2
                go_ret
                exact BoolP.tt HBB.out B3.out
end Go.Proofs.Ytaadfalklddhcaa
