/-
  Whether a request may be, by the program's word.
  Conditions: the request's lists lie in memory.
-/
import Derived.Test.YtaadfalklddhcaaZStmW8
import Derived.Test.YtaadfalklddhcaaZCj
import Derived.Test.YtaadfalklddhcaaZEj
import Derived.Test.YtaadfalklddhcaaZItemW5
namespace Go.Proofs.Ytaadfalklddhcaa
open Go.RowKit Go.Sort Go.Lib
set_option linter.unusedVariables false
set_option linter.unusedSimpArgs false
theorem StmM.may_code {x y : Rq} {ok : Prop} (hk : 1 ≤ x.kind ∧ x.kind ≤ 11) (hy : StmM.bare x = y) (hok : StmM.same x (StmM.bare x) = true → (ok ↔ StmM.itOk x)) :
    StmM.may x = true ↔ (ok ∧ StmM.same x y = true ∧ 0 ≤ x.n ∧ x.n ≤ 50 ∧ x.q.length ≤ 4096 ∧ x.fl.length ≤ 4096 ∧ -64 ≤ x.scale ∧ x.scale ≤ 64) := by
  rw [StmM.may_iff, ← hy]
  constructor
  · rintro ⟨_, _, h, h1, h2, h3, h4, h5, h6, h7⟩
    exact ⟨(hok h).2 h7, h, h1, h2, h3, h4, h5, h6⟩
  · rintro ⟨h0, h, h1, h2, h3, h4, h5, h6⟩
    exact ⟨hk.1, hk.2, h, h1, h2, h3, h4, h5, h6, (hok h).1 h0⟩
theorem may_no {b : Bool} {ok R : Prop} {s : Bool} (h : b = true ↔ (ok ∧ s = true ∧ R)) (hs : s = true → False) : b = false := by
  cases b with
  | false => rfl
  | true => exact (hs (h.1 rfl).2.1).elim
theorem may_no' {b : Bool} {ok R : Prop} (h : b = true ↔ (ok ∧ R)) (hs : ok → False) : b = false := by
  cases b with
  | false => rfl
  | true => exact (hs (h.1 rfl).1).elim
theorem may_bool {b b' : Bool} {ok R : Prop} {s : Bool} (h : b = true ↔ (ok ∧ s = true ∧ R)) (ho : ok) (hs : s = true) (hr : b' = true ↔ R) : Ending.returned (.bool b') = Ending.returned (.bool b) := by
  have : b' = b := Bool.eq_iff_iff.2 (hr.trans ⟨fun q => h.2 ⟨ho, hs, q⟩, fun q => (h.1 q).2.2⟩)
  rw [this]
def setsAt (g : Nat) : List (Nat × Value) → World → World
  | [], w => w
  | (i, v) :: l, w => setsAt g l (w.setCell ⟨g, i, none⟩ v)
theorem sets_below {B g : Nat} {a w : World} (h : Below B a w) (hs : B ≤ w.heap.size) (hg : B ≤ g) : ∀ (l : List (Nat × Value)), Below B a (setsAt g l w)
  | [] => h
  | (i, v) :: l => by
    have h1 := below_set h hs hg i v
    exact sets_below h1 (Nat.le_trans hs (grownBy_setCell w g i v).size) hg l
theorem wpl_load_row {P : Program} {ops : Array Oper} {rest : List Oper} {o : Oper} {a : Act} {w : World} {Q : Exit → Act → World → Prop} (hgd : Region.wanted o (yielded ops a.tmps) = true) (ty : TypeId) (x : Operand) (ho : o.op = .load ty x)
    (g : Nat) (hx : a.eval x = .pointer (some ⟨g, 0, none⟩)) (t : TypeId) (cs : Array Value) (fr : Nat × Nat) (d : TypeDesc) (hg : w.heap[g]? = some (.cells cs t fr))
    (hu : P.underlying ty = some d) (hd : (match d with | .struct _ | .array _ _ => true | _ => false) = true) (hi : (P.info? ty).map (·.size) = some cs.size)
    (h : wpList P ops Q rest (a.put o.dst (.agg cs)) w) : wpList P ops Q (o :: rest) a w :=
  wpList_step fun _ hK => by
    rw [if_pos hgd]
    exact wp_load_row ty x ho g hx t cs fr d hg hu hd hi (hK _ _ h)
def ma5Y (ik : Nat) (note : List UInt8) (A2 : Option Addr) (c2 : Nat) (key till : Nat) (n : Int) (q : List Int) (fl : List Nat) (sc : Int) (QA : Option Addr) (qc : Nat) (FA : Option Addr) (fc : Nat) (b0 b1 b2 : Bool) : Array Value := #[.int .i64 5, .int .u64 0, .slice none 0 0, .slice none 0 0, (bif b0 then .int .u64 (key : Int) else .int .u64 0), (bif b1 then .int .u64 (till : Int) else .int .u64 0), (bif b2 then .int .i64 n else .int .i64 0), .slice none 0 0, .slice none 0 0, .int .i64 0]
def ma5P (g : Nat) (ik : Nat) (note : List UInt8) (A2 : Option Addr) (c2 : Nat) (key till : Nat) (n : Int) (q : List Int) (fl : List Nat) (sc : Int) (QA : Option Addr) (qc : Nat) (FA : Option Addr) (fc : Nat) : List (Nat × Nat × Value) := [(0, 32, (.pointer (some ⟨g, 4, none⟩))), (1, 33, (.int .u64 (key : Int))), (2, 34, (.pointer (some ⟨g, 5, none⟩))), (3, 35, (.int .u64 (till : Int))), (4, 36, (.pointer (some ⟨g, 6, none⟩))), (5, 37, (.int .i64 n)), (6, 38, (.pointer (some ⟨g + 1, 4, none⟩))), (8, 39, (.pointer (some ⟨g + 1, 5, none⟩))), (10, 40, (.pointer (some ⟨g + 1, 6, none⟩)))]
def ma6Y (ik : Nat) (note : List UInt8) (A2 : Option Addr) (c2 : Nat) (key till : Nat) (n : Int) (q : List Int) (fl : List Nat) (sc : Int) (QA : Option Addr) (qc : Nat) (FA : Option Addr) (fc : Nat) (b0 b1 : Bool) : Array Value := #[.int .i64 6, .int .u64 0, .slice none 0 0, .slice none 0 0, .int .u64 0, .int .u64 0, (bif b0 then .int .i64 n else .int .i64 0), (bif b1 then .slice QA q.length qc else .slice none 0 0), .slice none 0 0, .int .i64 0]
def ma6P (g : Nat) (ik : Nat) (note : List UInt8) (A2 : Option Addr) (c2 : Nat) (key till : Nat) (n : Int) (q : List Int) (fl : List Nat) (sc : Int) (QA : Option Addr) (qc : Nat) (FA : Option Addr) (fc : Nat) : List (Nat × Nat × Value) := [(0, 43, (.pointer (some ⟨g, 6, none⟩))), (1, 44, (.int .i64 n)), (2, 45, (.pointer (some ⟨g, 7, none⟩))), (3, 46, (.slice QA q.length qc)), (4, 47, (.pointer (some ⟨g + 1, 6, none⟩))), (6, 48, (.pointer (some ⟨g + 1, 7, none⟩)))]
def ma10Y (ik : Nat) (note : List UInt8) (A2 : Option Addr) (c2 : Nat) (key till : Nat) (n : Int) (q : List Int) (fl : List Nat) (sc : Int) (QA : Option Addr) (qc : Nat) (FA : Option Addr) (fc : Nat) (b0 b1 : Bool) : Array Value := #[.int .i64 10, .int .u64 (ik : Int), .slice none 0 0, .slice A2 note.length c2, .int .u64 0, .int .u64 0, .int .i64 0, .slice none 0 0, (bif b0 then .slice FA fl.length fc else .slice none 0 0), (bif b1 then .int .i64 sc else .int .i64 0)]
def ma10P (g : Nat) (ik : Nat) (note : List UInt8) (A2 : Option Addr) (c2 : Nat) (key till : Nat) (n : Int) (q : List Int) (fl : List Nat) (sc : Int) (QA : Option Addr) (qc : Nat) (FA : Option Addr) (fc : Nat) : List (Nat × Nat × Value) := [(0, 59, (.pointer (some ⟨g, 8, none⟩))), (1, 60, (.slice FA fl.length fc)), (2, 61, (.pointer (some ⟨g, 9, none⟩))), (3, 62, (.int .i64 sc)), (4, 63, (.pointer (some ⟨g + 1, 8, none⟩))), (6, 64, (.pointer (some ⟨g + 1, 9, none⟩)))]
def ma11Y (ik : Nat) (note : List UInt8) (A2 : Option Addr) (c2 : Nat) (key till : Nat) (n : Int) (q : List Int) (fl : List Nat) (sc : Int) (QA : Option Addr) (qc : Nat) (FA : Option Addr) (fc : Nat) (b0 b1 b2 : Bool) : Array Value := #[.int .i64 11, .int .u64 0, .slice none 0 0, .slice none 0 0, .int .u64 0, .int .u64 0, (bif b0 then .int .i64 n else .int .i64 0), .slice none 0 0, (bif b1 then .slice FA fl.length fc else .slice none 0 0), (bif b2 then .int .i64 sc else .int .i64 0)]
def ma11P (g : Nat) (ik : Nat) (note : List UInt8) (A2 : Option Addr) (c2 : Nat) (key till : Nat) (n : Int) (q : List Int) (fl : List Nat) (sc : Int) (QA : Option Addr) (qc : Nat) (FA : Option Addr) (fc : Nat) : List (Nat × Nat × Value) := [(0, 72, (.pointer (some ⟨g, 6, none⟩))), (1, 73, (.int .i64 n)), (2, 74, (.pointer (some ⟨g, 8, none⟩))), (3, 75, (.slice FA fl.length fc)), (4, 76, (.pointer (some ⟨g, 9, none⟩))), (5, 77, (.int .i64 sc)), (6, 78, (.pointer (some ⟨g + 1, 6, none⟩))), (8, 79, (.pointer (some ⟨g + 1, 8, none⟩))), (10, 80, (.pointer (some ⟨g + 1, 9, none⟩)))]

set_option maxRecDepth 100000 in
set_option maxHeartbeats 16000000 in
theorem mayask_any (s : Rqv) (w : World) (hs : s.At w) : Calls Try.prog 15 #[.agg s.cells] w (BoolP (StmM.may s.x) w) := by
  obtain ⟨⟨kind, ⟨ik, vec, note⟩, key, till, n, q, fl, sc⟩, A, c, A2, c2, QA, qc, FA, fc⟩ := s
  have HSA0 := Lib.hid hs
  have hmx : maxLen ≤ 9223372036854775807 := by unfold maxLen; omega
  have HLN : Hid (vec.length ≤ 9223372036854775807 ∧ note.length ≤ 9223372036854775807) := Lib.hid ⟨Nat.le_trans (Nat.le_trans hs.l1 hs.m1) hmx, Nat.le_trans (Nat.le_trans hs.l2 hs.m2) hmx⟩
  clear hs hmx
  simp only [Rqv.cells, rqC]
  have b0 : Below w.heap.size w ((w.alloc (.cells #[.int .i64 kind, .int .u64 (ik : Int), .slice A vec.length c, .slice A2 note.length c2, .int .u64 (key : Int), .int .u64 (till : Int), .int .i64 n, .slice QA q.length qc, .slice FA fl.length fc, .int .i64 sc] 42)).alloc (.cells #[.int .i64 kind, .int .u64 0, .slice none 0 0, .slice none 0 0, .int .u64 0, .int .u64 0, .int .i64 0, .slice none 0 0, .slice none 0 0, .int .i64 0] 42)) := ((Below.refl _ _).alloc (Nat.le_refl _) _).alloc (by simp) _
  have U1 := (Blk.new w 42 #[.int .i64 kind, .int .u64 (ik : Int), .slice A vec.length c, .slice A2 note.length c2, .int .u64 (key : Int), .int .u64 (till : Int), .int .i64 n, .slice QA q.length qc, .slice FA fl.length fc, .int .i64 sc]).alloc (.cells #[.int .i64 kind, .int .u64 0, .slice none 0 0, .slice none 0 0, .int .u64 0, .int .u64 0, .int .i64 0, .slice none 0 0, .slice none 0 0, .int .i64 0] 42)
  have U2 := Blk.new (w.alloc (.cells #[.int .i64 kind, .int .u64 (ik : Int), .slice A vec.length c, .slice A2 note.length c2, .int .u64 (key : Int), .int .u64 (till : Int), .int .i64 n, .slice QA q.length qc, .slice FA fl.length fc, .int .i64 sc] 42)) 42 #[.int .i64 kind, .int .u64 0, .slice none 0 0, .slice none 0 0, .int .u64 0, .int .u64 0, .int .i64 0, .slice none 0 0, .slice none 0 0, .int .i64 0]
  have e1 : (w.alloc (.cells #[.int .i64 kind, .int .u64 (ik : Int), .slice A vec.length c, .slice A2 note.length c2, .int .u64 (key : Int), .int .u64 (till : Int), .int .i64 n, .slice QA q.length qc, .slice FA fl.length fc, .int .i64 sc] 42)).heap.size = w.heap.size + 1 := by simp
  rw [e1] at U2
  clear e1
  go_enter Try.func15, Try.ntmps15
  go_upto_region 2 with fail
  generalize (w.alloc (.cells #[.int .i64 kind, .int .u64 (ik : Int), .slice A vec.length c, .slice A2 note.length c2, .int .u64 (key : Int), .int .u64 (till : Int), .int .i64 n, .slice QA q.length qc, .slice FA fl.length fc, .int .i64 sc] 42)).alloc (.cells #[.int .i64 kind, .int .u64 0, .slice none 0 0, .slice none 0 0, .int .u64 0, .int .u64 0, .int .i64 0, .slice none 0 0, .slice none 0 0, .int .i64 0] 42) = V0 at *
  obtain ⟨g, hg⟩ : ∃ g, w.heap.size = g := ⟨_, rfl⟩
  have HG := Lib.hid hg
  rw [hg] at U1 U2 b0
  simp only [hg]
  have B0 := Lib.hid b0
  have HSA : Hid (∀ (w' : World), Below g w w' → Rqv.At ⟨⟨kind, ⟨ik, vec, note⟩, key, till, n, q, fl, sc⟩, A, c, A2, c2, QA, qc, FA, fc⟩ w') := Lib.hid fun w' h => HSA0.out.below (by rw [HG.out]; exact h)
  clear hg b0 HSA0
  have HU := Lib.hid (And.intro U1 U2)
  obtain ⟨d0, d1, d2, d3, d4, d5, d6, d7, d8, d9⟩ := U1.c10
  obtain ⟨e0, e1, e2, e3, e4, e5, e6, e7, e8, e9⟩ := U2.c10
  clear U1 U2
  by_cases k1 : kind = 1
  · subst k1
    as_aux_lemma =>
    have HM : Hid (StmM.may ⟨1, ⟨ik, vec, note⟩, key, till, n, q, fl, sc⟩ = true ↔ _) := Lib.hid (StmM.may_code (x := ⟨1, ⟨ik, vec, note⟩, key, till, n, q, fl, sc⟩) (y := ⟨1, ⟨0, [], []⟩, 0, 0, 0, [], [], 0⟩) (ok := True) (by simp) (by simp [StmM.bare, StmM.nil, StmM.no]) (fun h => by have e := congrArg (fun z : Rq => z.it.note) ((StmM.same_iff _ _).1 h); simp [StmM.bare, StmM.nil, StmM.no] at e; subst e; simp [StmM.itOk]))
    have HOK : Hid True := Lib.hid trivial
    go_upto_region 25 with fail
    have HU1 := HU
    have B1 := B0
    have RX : Hid (Rqv.At ⟨⟨1, ⟨ik, vec, note⟩, key, till, n, q, fl, sc⟩, A, c, A2, c2, QA, qc, FA, fc⟩ V0) := Lib.hid (HSA.out _ B1.out)
    have RY : Hid (Rqv.At ⟨⟨1, ⟨0, [], []⟩, 0, 0, 0, [], [], 0⟩, none, 0, none, 0, none, 0, none, 0⟩ V0) := Lib.hid ⟨.inl rfl, .inl rfl, .inl rfl, .inl rfl, ⟨by simp, StmM.no_ok, by simp, by simp, by simp, (fun v hv => by cases hv), (fun v hv => by cases hv), by simp⟩, Nat.zero_le _, Nat.zero_le _, Nat.zero_le _, Nat.zero_le _, Nat.zero_le _, Nat.zero_le _, Nat.zero_le _, Nat.zero_le _⟩
    have u1 := HU1.out.1
    have u2 := HU1.out.2
    go_wp2_with (first | (refine wpl_load_row rfl _ (.tmp 1) rfl (g) (by go_simp) _ #[.int .i64 1, .int .u64 (ik : Int), .slice A vec.length c, .slice A2 note.length c2, .int .u64 (key : Int), .int .u64 (till : Int), .int .i64 n, .slice QA q.length qc, .slice FA fl.length fc, .int .i64 sc] (0, 0) _ u1 Try.underlying42 rfl (by kernel_rfl) ?_) | (refine wpl_load_row rfl _ (.tmp 3) rfl (g + 1) (by go_simp) _ #[.int .i64 1, .int .u64 0, .slice none 0 0, .slice none 0 0, .int .u64 0, .int .u64 0, .int .i64 0, .slice none 0 0, .slice none 0 0, .int .i64 0] (0, 0) _ u2 Try.underlying42 rfl (by kernel_rfl) ?_))
    refine (stmsame_any ⟨⟨1, ⟨ik, vec, note⟩, key, till, n, q, fl, sc⟩, A, c, A2, c2, QA, qc, FA, fc⟩ ⟨⟨1, ⟨0, [], []⟩, 0, 0, 0, [], [], 0⟩, none, 0, none, 0, none, 0, none, 0⟩ V0 RX.out RY.out).mono ?_
    rintro e V9 ⟨rfl, hb⟩
    have B9 := Lib.hid (below_step B1.out hb (Nat.le_of_eq HG.out.symm))
    obtain ⟨d0, d1, d2, d3, d4, d5, d6, d7, d8, d9⟩ := (u1.below hb u1.lt).c10
    clear hb u1 u2 d0 d1 d2 d3 d4 d5
    generalize hbq : StmM.same _ _ = bq
    have HS := Lib.hid hbq
    clear hbq
    cases bq with
    | false =>
      go_wp2
      go_ret
      exact ⟨by rw [may_no HM.out (fun q => by have h := HS.out; rw [h] at q; cases q)]; rfl, by rw [HG.out]; exact B9.out⟩
    | true =>
      go_wp2
      all_goals (go_ret; exact ⟨may_bool HM.out HOK.out HS.out (by constructor <;> intro q <;> first | omega | (simp at q ⊢; omega) | (simp at q; done) | (simp; omega)), by rw [HG.out]; exact B9.out⟩)
  by_cases k2 : kind = 2
  · subst k2
    as_aux_lemma =>
    have HM : Hid (StmM.may ⟨2, ⟨ik, vec, note⟩, key, till, n, q, fl, sc⟩ = true ↔ _) := Lib.hid (StmM.may_code (x := ⟨2, ⟨ik, vec, note⟩, key, till, n, q, fl, sc⟩) (y := ⟨2, ⟨ik, vec, note⟩, 0, 0, 0, [], [], 0⟩) (ok := ItemM.may ⟨ik, vec, note⟩ = 0) (by simp) (by simp [StmM.bare, StmM.nil, StmM.no]) (fun _ => by simp [StmM.itOk]))
    have hy : Blk (((V0.setCell ⟨g + 1, 1, none⟩ (.int .u64 (ik : Int))).setCell ⟨g + 1, 2, none⟩ (.slice A vec.length c)).setCell ⟨g + 1, 3, none⟩ (.slice A2 note.length c2)) (g + 1) 42 #[.int .i64 2, .int .u64 (ik : Int), .slice A vec.length c, .slice A2 note.length c2, .int .u64 0, .int .u64 0, .int .i64 0, .slice none 0 0, .slice none 0 0, .int .i64 0] := (((HU.out.2.set_ 1 (.int .u64 (ik : Int))).set_ 2 (.slice A vec.length c)).set_ 3 (.slice A2 note.length c2))
    have hx : Blk (((V0.setCell ⟨g + 1, 1, none⟩ (.int .u64 (ik : Int))).setCell ⟨g + 1, 2, none⟩ (.slice A vec.length c)).setCell ⟨g + 1, 3, none⟩ (.slice A2 note.length c2)) g 42 #[.int .i64 2, .int .u64 (ik : Int), .slice A vec.length c, .slice A2 note.length c2, .int .u64 (key : Int), .int .u64 (till : Int), .int .i64 n, .slice QA q.length qc, .slice FA fl.length fc, .int .i64 sc] := (((HU.out.1.far (p := ⟨g + 1, 1, none⟩) (by simp) (.int .u64 (ik : Int))).far (p := ⟨g + 1, 2, none⟩) (by simp) (.slice A vec.length c)).far (p := ⟨g + 1, 3, none⟩) (by simp) (.slice A2 note.length c2))
    have hb1 : Below g w (((V0.setCell ⟨g + 1, 1, none⟩ (.int .u64 (ik : Int))).setCell ⟨g + 1, 2, none⟩ (.slice A vec.length c)).setCell ⟨g + 1, 3, none⟩ (.slice A2 note.length c2)) := sets_below B0.out (by have := HU.out.2.lt; omega) (by omega : g ≤ g + 1) [(1, .int .u64 (ik : Int)), (2, .slice A vec.length c), (3, .slice A2 note.length c2)]
    have fz1 := HU.out.2.frozen 1
    have fz2 := HU.out.2.frozen 2
    have fz3 := HU.out.2.frozen 3
    go_upto_region 11 with fail
    clear fz1
    clear fz2
    clear fz3
    generalize (((V0.setCell ⟨g + 1, 1, none⟩ (.int .u64 (ik : Int))).setCell ⟨g + 1, 2, none⟩ (.slice A vec.length c)).setCell ⟨g + 1, 3, none⟩ (.slice A2 note.length c2)) = V1 at *
    have B1 := Lib.hid hb1
    have HU1 := Lib.hid (And.intro hx hy)
    clear hx hy hb1 d0 d1 d2 d3 d4 d5 d6 d7 d8 d9 e0 e1 e2 e3 e4 e5 e6 e7 e8 e9
    obtain ⟨d0, d1, d2, d3, d4, d5, d6, d7, d8, d9⟩ := HU1.out.1.c10
    go_wp2_with fail
    refine (may_any ik A A2 vec.length c note.length c2 V1 HLN.out.1 HLN.out.2).mono ?_
    rintro e V2 ⟨rfl, hb⟩
    clear d0 d1 d2 d3 d4 d5 d6 d7 d8 d9
    generalize hmm : (if vec.length = 0 ∨ 4096 < vec.length then 9 else if 1024 < note.length then 3 else 0 : Nat) = mm
    have HMM : Hid (ItemM.may ⟨ik, vec, note⟩ = mm) := Lib.hid hmm
    have B2 := Lib.hid (below_step B1.out hb (Nat.le_of_eq HG.out.symm))
    have HU2 := Lib.hid (And.intro (HU1.out.1.below hb HU1.out.1.lt) (HU1.out.2.below hb HU1.out.2.lt))
    clear hmm hb HU1 B1
    by_cases hz : mm = 0
    · subst hz
      have HOK : Hid (ItemM.may ⟨ik, vec, note⟩ = 0) := HMM
      have RX : Hid (Rqv.At ⟨⟨2, ⟨ik, vec, note⟩, key, till, n, q, fl, sc⟩, A, c, A2, c2, QA, qc, FA, fc⟩ V2) := Lib.hid (HSA.out _ B2.out)
      have RY : Hid (Rqv.At ⟨⟨2, ⟨ik, vec, note⟩, 0, 0, 0, [], [], 0⟩, A, c, A2, c2, none, 0, none, 0⟩ V2) := Lib.hid ⟨RX.out.r1, RX.out.r2, .inl rfl, .inl rfl, ⟨by simp, RX.out.ok.hit, by simp, by simp, by simp, (fun v hv => by cases hv), (fun v hv => by cases hv), by simp⟩, RX.out.l1, RX.out.l2, Nat.zero_le _, Nat.zero_le _, RX.out.m1, RX.out.m2, Nat.zero_le _, Nat.zero_le _⟩
      have u1 := HU2.out.1
      have u2 := HU2.out.2
      go_wp2_with (first | (refine wpl_load_row rfl _ (.tmp 1) rfl (g) (by go_simp) _ #[.int .i64 2, .int .u64 (ik : Int), .slice A vec.length c, .slice A2 note.length c2, .int .u64 (key : Int), .int .u64 (till : Int), .int .i64 n, .slice QA q.length qc, .slice FA fl.length fc, .int .i64 sc] (0, 0) _ u1 Try.underlying42 rfl (by kernel_rfl) ?_) | (refine wpl_load_row rfl _ (.tmp 3) rfl (g + 1) (by go_simp) _ #[.int .i64 2, .int .u64 (ik : Int), .slice A vec.length c, .slice A2 note.length c2, .int .u64 0, .int .u64 0, .int .i64 0, .slice none 0 0, .slice none 0 0, .int .i64 0] (0, 0) _ u2 Try.underlying42 rfl (by kernel_rfl) ?_))
      refine (stmsame_any ⟨⟨2, ⟨ik, vec, note⟩, key, till, n, q, fl, sc⟩, A, c, A2, c2, QA, qc, FA, fc⟩ ⟨⟨2, ⟨ik, vec, note⟩, 0, 0, 0, [], [], 0⟩, A, c, A2, c2, none, 0, none, 0⟩ V2 RX.out RY.out).mono ?_
      rintro e V9 ⟨rfl, hb⟩
      have B9 := Lib.hid (below_step B2.out hb (Nat.le_of_eq HG.out.symm))
      obtain ⟨d0, d1, d2, d3, d4, d5, d6, d7, d8, d9⟩ := (u1.below hb u1.lt).c10
      clear hb u1 u2 d0 d1 d2 d3 d4 d5
      generalize hbq : StmM.same _ _ = bq
      have HS := Lib.hid hbq
      clear hbq
      cases bq with
      | false =>
        go_wp2
        go_ret
        exact ⟨by rw [may_no HM.out (fun q => by have h := HS.out; rw [h] at q; cases q)]; rfl, by rw [HG.out]; exact B9.out⟩
      | true =>
        go_wp2
        all_goals (go_ret; exact ⟨may_bool HM.out HOK.out HS.out (by constructor <;> intro q <;> first | omega | (simp at q ⊢; omega) | (simp at q; done) | (simp; omega)), by rw [HG.out]; exact B9.out⟩)
    · have hzz : ((mm : Int) == 0) = false := beq_eq_false_iff_ne.2 (by omega)
      have HZ := Lib.hid hz
      clear hz
      go_wp2
      go_ret
      exact ⟨by rw [may_no' HM.out (fun q => HZ.out (HMM.out.symm.trans q))]; rfl, by rw [HG.out]; exact B2.out⟩
  by_cases k3 : kind = 3
  · subst k3
    as_aux_lemma =>
    have HM : Hid (StmM.may ⟨3, ⟨ik, vec, note⟩, key, till, n, q, fl, sc⟩ = true ↔ _) := Lib.hid (StmM.may_code (x := ⟨3, ⟨ik, vec, note⟩, key, till, n, q, fl, sc⟩) (y := ⟨3, ⟨0, [], []⟩, key, 0, 0, [], [], 0⟩) (ok := True) (by simp) (by simp [StmM.bare, StmM.nil, StmM.no]) (fun h => by have e := congrArg (fun z : Rq => z.it.note) ((StmM.same_iff _ _).1 h); simp [StmM.bare, StmM.nil, StmM.no] at e; subst e; simp [StmM.itOk]))
    have HOK : Hid True := Lib.hid trivial
    have hy : Blk (V0.setCell ⟨g + 1, 4, none⟩ (.int .u64 (key : Int))) (g + 1) 42 #[.int .i64 3, .int .u64 0, .slice none 0 0, .slice none 0 0, .int .u64 (key : Int), .int .u64 0, .int .i64 0, .slice none 0 0, .slice none 0 0, .int .i64 0] := (HU.out.2.set_ 4 (.int .u64 (key : Int)))
    have hx : Blk (V0.setCell ⟨g + 1, 4, none⟩ (.int .u64 (key : Int))) g 42 #[.int .i64 3, .int .u64 (ik : Int), .slice A vec.length c, .slice A2 note.length c2, .int .u64 (key : Int), .int .u64 (till : Int), .int .i64 n, .slice QA q.length qc, .slice FA fl.length fc, .int .i64 sc] := (HU.out.1.far (p := ⟨g + 1, 4, none⟩) (by simp) (.int .u64 (key : Int)))
    have hb1 : Below g w (V0.setCell ⟨g + 1, 4, none⟩ (.int .u64 (key : Int))) := sets_below B0.out (by have := HU.out.2.lt; omega) (by omega : g ≤ g + 1) [(4, .int .u64 (key : Int))]
    have fz4 := HU.out.2.frozen 4
    go_upto_region 25 with fail
    clear fz4
    generalize (V0.setCell ⟨g + 1, 4, none⟩ (.int .u64 (key : Int))) = V1 at *
    have B1 := Lib.hid hb1
    have HU1 := Lib.hid (And.intro hx hy)
    have RX : Hid (Rqv.At ⟨⟨3, ⟨ik, vec, note⟩, key, till, n, q, fl, sc⟩, A, c, A2, c2, QA, qc, FA, fc⟩ V1) := Lib.hid (HSA.out _ B1.out)
    have RY : Hid (Rqv.At ⟨⟨3, ⟨0, [], []⟩, key, 0, 0, [], [], 0⟩, none, 0, none, 0, none, 0, none, 0⟩ V1) := Lib.hid ⟨.inl rfl, .inl rfl, .inl rfl, .inl rfl, ⟨by simp, StmM.no_ok, RX.out.ok.hkey, by simp, by simp, (fun v hv => by cases hv), (fun v hv => by cases hv), by simp⟩, Nat.zero_le _, Nat.zero_le _, Nat.zero_le _, Nat.zero_le _, Nat.zero_le _, Nat.zero_le _, Nat.zero_le _, Nat.zero_le _⟩
    have u1 := HU1.out.1
    have u2 := HU1.out.2
    go_wp2_with (first | (refine wpl_load_row rfl _ (.tmp 1) rfl (g) (by go_simp) _ #[.int .i64 3, .int .u64 (ik : Int), .slice A vec.length c, .slice A2 note.length c2, .int .u64 (key : Int), .int .u64 (till : Int), .int .i64 n, .slice QA q.length qc, .slice FA fl.length fc, .int .i64 sc] (0, 0) _ u1 Try.underlying42 rfl (by kernel_rfl) ?_) | (refine wpl_load_row rfl _ (.tmp 3) rfl (g + 1) (by go_simp) _ #[.int .i64 3, .int .u64 0, .slice none 0 0, .slice none 0 0, .int .u64 (key : Int), .int .u64 0, .int .i64 0, .slice none 0 0, .slice none 0 0, .int .i64 0] (0, 0) _ u2 Try.underlying42 rfl (by kernel_rfl) ?_))
    refine (stmsame_any ⟨⟨3, ⟨ik, vec, note⟩, key, till, n, q, fl, sc⟩, A, c, A2, c2, QA, qc, FA, fc⟩ ⟨⟨3, ⟨0, [], []⟩, key, 0, 0, [], [], 0⟩, none, 0, none, 0, none, 0, none, 0⟩ V1 RX.out RY.out).mono ?_
    rintro e V9 ⟨rfl, hb⟩
    have B9 := Lib.hid (below_step B1.out hb (Nat.le_of_eq HG.out.symm))
    obtain ⟨d0, d1, d2, d3, d4, d5, d6, d7, d8, d9⟩ := (u1.below hb u1.lt).c10
    clear hb u1 u2 d0 d1 d2 d3 d4 d5
    generalize hbq : StmM.same _ _ = bq
    have HS := Lib.hid hbq
    clear hbq
    cases bq with
    | false =>
      go_wp2
      go_ret
      exact ⟨by rw [may_no HM.out (fun q => by have h := HS.out; rw [h] at q; cases q)]; rfl, by rw [HG.out]; exact B9.out⟩
    | true =>
      go_wp2
      all_goals (go_ret; exact ⟨may_bool HM.out HOK.out HS.out (by constructor <;> intro q <;> first | omega | (simp at q ⊢; omega) | (simp at q; done) | (simp; omega)), by rw [HG.out]; exact B9.out⟩)
  by_cases k4 : kind = 4
  · subst k4
    as_aux_lemma =>
    have HM : Hid (StmM.may ⟨4, ⟨ik, vec, note⟩, key, till, n, q, fl, sc⟩ = true ↔ _) := Lib.hid (StmM.may_code (x := ⟨4, ⟨ik, vec, note⟩, key, till, n, q, fl, sc⟩) (y := ⟨4, ⟨0, [], []⟩, key, 0, 0, [], [], 0⟩) (ok := True) (by simp) (by simp [StmM.bare, StmM.nil, StmM.no]) (fun h => by have e := congrArg (fun z : Rq => z.it.note) ((StmM.same_iff _ _).1 h); simp [StmM.bare, StmM.nil, StmM.no] at e; subst e; simp [StmM.itOk]))
    have HOK : Hid True := Lib.hid trivial
    have hy : Blk (V0.setCell ⟨g + 1, 4, none⟩ (.int .u64 (key : Int))) (g + 1) 42 #[.int .i64 4, .int .u64 0, .slice none 0 0, .slice none 0 0, .int .u64 (key : Int), .int .u64 0, .int .i64 0, .slice none 0 0, .slice none 0 0, .int .i64 0] := (HU.out.2.set_ 4 (.int .u64 (key : Int)))
    have hx : Blk (V0.setCell ⟨g + 1, 4, none⟩ (.int .u64 (key : Int))) g 42 #[.int .i64 4, .int .u64 (ik : Int), .slice A vec.length c, .slice A2 note.length c2, .int .u64 (key : Int), .int .u64 (till : Int), .int .i64 n, .slice QA q.length qc, .slice FA fl.length fc, .int .i64 sc] := (HU.out.1.far (p := ⟨g + 1, 4, none⟩) (by simp) (.int .u64 (key : Int)))
    have hb1 : Below g w (V0.setCell ⟨g + 1, 4, none⟩ (.int .u64 (key : Int))) := sets_below B0.out (by have := HU.out.2.lt; omega) (by omega : g ≤ g + 1) [(4, .int .u64 (key : Int))]
    have fz4 := HU.out.2.frozen 4
    go_upto_region 25 with fail
    clear fz4
    generalize (V0.setCell ⟨g + 1, 4, none⟩ (.int .u64 (key : Int))) = V1 at *
    have B1 := Lib.hid hb1
    have HU1 := Lib.hid (And.intro hx hy)
    have RX : Hid (Rqv.At ⟨⟨4, ⟨ik, vec, note⟩, key, till, n, q, fl, sc⟩, A, c, A2, c2, QA, qc, FA, fc⟩ V1) := Lib.hid (HSA.out _ B1.out)
    have RY : Hid (Rqv.At ⟨⟨4, ⟨0, [], []⟩, key, 0, 0, [], [], 0⟩, none, 0, none, 0, none, 0, none, 0⟩ V1) := Lib.hid ⟨.inl rfl, .inl rfl, .inl rfl, .inl rfl, ⟨by simp, StmM.no_ok, RX.out.ok.hkey, by simp, by simp, (fun v hv => by cases hv), (fun v hv => by cases hv), by simp⟩, Nat.zero_le _, Nat.zero_le _, Nat.zero_le _, Nat.zero_le _, Nat.zero_le _, Nat.zero_le _, Nat.zero_le _, Nat.zero_le _⟩
    have u1 := HU1.out.1
    have u2 := HU1.out.2
    go_wp2_with (first | (refine wpl_load_row rfl _ (.tmp 1) rfl (g) (by go_simp) _ #[.int .i64 4, .int .u64 (ik : Int), .slice A vec.length c, .slice A2 note.length c2, .int .u64 (key : Int), .int .u64 (till : Int), .int .i64 n, .slice QA q.length qc, .slice FA fl.length fc, .int .i64 sc] (0, 0) _ u1 Try.underlying42 rfl (by kernel_rfl) ?_) | (refine wpl_load_row rfl _ (.tmp 3) rfl (g + 1) (by go_simp) _ #[.int .i64 4, .int .u64 0, .slice none 0 0, .slice none 0 0, .int .u64 (key : Int), .int .u64 0, .int .i64 0, .slice none 0 0, .slice none 0 0, .int .i64 0] (0, 0) _ u2 Try.underlying42 rfl (by kernel_rfl) ?_))
    refine (stmsame_any ⟨⟨4, ⟨ik, vec, note⟩, key, till, n, q, fl, sc⟩, A, c, A2, c2, QA, qc, FA, fc⟩ ⟨⟨4, ⟨0, [], []⟩, key, 0, 0, [], [], 0⟩, none, 0, none, 0, none, 0, none, 0⟩ V1 RX.out RY.out).mono ?_
    rintro e V9 ⟨rfl, hb⟩
    have B9 := Lib.hid (below_step B1.out hb (Nat.le_of_eq HG.out.symm))
    obtain ⟨d0, d1, d2, d3, d4, d5, d6, d7, d8, d9⟩ := (u1.below hb u1.lt).c10
    clear hb u1 u2 d0 d1 d2 d3 d4 d5
    generalize hbq : StmM.same _ _ = bq
    have HS := Lib.hid hbq
    clear hbq
    cases bq with
    | false =>
      go_wp2
      go_ret
      exact ⟨by rw [may_no HM.out (fun q => by have h := HS.out; rw [h] at q; cases q)]; rfl, by rw [HG.out]; exact B9.out⟩
    | true =>
      go_wp2
      all_goals (go_ret; exact ⟨may_bool HM.out HOK.out HS.out (by constructor <;> intro q <;> first | omega | (simp at q ⊢; omega) | (simp at q; done) | (simp; omega)), by rw [HG.out]; exact B9.out⟩)
  by_cases k5 : kind = 5
  · subst k5
    as_aux_lemma =>
    have HM : Hid (StmM.may ⟨5, ⟨ik, vec, note⟩, key, till, n, q, fl, sc⟩ = true ↔ _) := Lib.hid (StmM.may_code (x := ⟨5, ⟨ik, vec, note⟩, key, till, n, q, fl, sc⟩) (y := ⟨5, ⟨0, [], []⟩, key, till, n, [], [], 0⟩) (ok := True) (by simp) (by simp [StmM.bare, StmM.nil, StmM.no]) (fun h => by have e := congrArg (fun z : Rq => z.it.note) ((StmM.same_iff _ _).1 h); simp [StmM.bare, StmM.nil, StmM.no] at e; subst e; simp [StmM.itOk]))
    have HOK : Hid True := Lib.hid trivial
    clear d0 d1 d2 d3 d4 d5 d6 d7 d8 d9 e0 e1 e2 e3 e4 e5 e6 e7 e8 e9
    have d0 := HU.out.1.c10.1
    go_upto_region 16 with fail
    refine wp_named fun a0 ha0 => ?_
    have z1 : a0.tmps.getD 1 undef = (.pointer (some ⟨g, 0, none⟩)) := by rw [ha0.out]; rfl
    have z3 : a0.tmps.getD 3 undef = (.pointer (some ⟨g + 1, 0, none⟩)) := by rw [ha0.out]; rfl
    have hsz0 : a0.tmps.size = 119 := by rw [ha0.out]; rfl
    refine wp_region_invB _ (by kernel_rfl) (fun L a wv => PIF a0 [32, 33, 34, 35, 36, 37, 38, 39, 40] (ma5P g ik note A2 c2 key till n q fl sc QA qc FA fc) L a ∧ (Below g w wv ∧ Blk wv g 42 #[.int .i64 5, .int .u64 (ik : Int), .slice A vec.length c, .slice A2 note.length c2, .int .u64 (key : Int), .int .u64 (till : Int), .int .i64 n, .slice QA q.length qc, .slice FA fl.length fc, .int .i64 sc]) ∧ Blk wv (g + 1) 42 (ma5Y ik note A2 c2 key till n q fl sc QA qc FA fc (L 7) (L 9) (L 11))) (by kernel_rfl) ?_ ?_ ?_
    · exact ⟨PIF.start _ _ _, ⟨B0.out.trans ⟨rfl, rfl, rfl, Nat.le_refl _, fun _ _ => rfl⟩, HU.out.1⟩, HU.out.2⟩
    rotate_left
    · as_aux_lemma =>
      refine ⟨?_, ?_, ?_, ?_, ?_, ?_, ?_, ?_, ?_, ?_, ?_, ?_, trivial⟩
      · intro L a w1 hI hi hd
        obtain ⟨hp, hw⟩ := hI
        have t1 := hp.at_ 1 _ rfl z1
        have t1' := t1
        rw [Array.getD_eq_getD_getElem?] at t1'
        exact rstep_valW (wanted_none rfl _) (.pointer (some ⟨g, 4, none⟩)) w1 (by go_simp) ⟨(hp.put 0 32 (.pointer (some ⟨g, 4, none⟩)) (by simp [ma5P]) (by simp [ma5P]) rfl (by rw [hsz0]; exact (by decide : 32 < 119))), ⟨hw.1, by rw [upd_ne L (show (7 : Nat) ≠ 0 by decide), upd_ne L (show (9 : Nat) ≠ 0 by decide), upd_ne L (show (11 : Nat) ≠ 0 by decide)]; exact hw.2⟩⟩
      · intro L a w1 hI hi hd
        obtain ⟨hp, hw⟩ := hI
        simp [Region.binds] at hd
        have e0 : a.tmps.getD 32 undef = (.pointer (some ⟨g, 4, none⟩)) := hp.pu (0, 32, (.pointer (some ⟨g, 4, none⟩))) (by simp [ma5P]) (by simp [hd])
        have f0 : a.tmps[32]?.getD undef = (.pointer (some ⟨g, 4, none⟩)) := by rw [← Array.getD_eq_getD_getElem?]; exact e0
        obtain ⟨d0, d1, d2, d3, d4, d5, d6, d7, d8, d9⟩ := hw.1.2.c10
        exact rstep_valW (wanted_none rfl _) (.int .u64 (key : Int)) w1 (by go_simp) ⟨(hp.put 1 33 (.int .u64 (key : Int)) (by simp [ma5P]) (by simp [ma5P]) rfl (by rw [hsz0]; exact (by decide : 33 < 119))), ⟨hw.1, by rw [upd_ne L (show (7 : Nat) ≠ 1 by decide), upd_ne L (show (9 : Nat) ≠ 1 by decide), upd_ne L (show (11 : Nat) ≠ 1 by decide)]; exact hw.2⟩⟩
      · intro L a w1 hI hi hd
        obtain ⟨hp, hw⟩ := hI
        have t1 := hp.at_ 1 _ rfl z1
        have t1' := t1
        rw [Array.getD_eq_getD_getElem?] at t1'
        exact rstep_valW (wanted_none rfl _) (.pointer (some ⟨g, 5, none⟩)) w1 (by go_simp) ⟨(hp.put 2 34 (.pointer (some ⟨g, 5, none⟩)) (by simp [ma5P]) (by simp [ma5P]) rfl (by rw [hsz0]; exact (by decide : 34 < 119))), ⟨hw.1, by rw [upd_ne L (show (7 : Nat) ≠ 2 by decide), upd_ne L (show (9 : Nat) ≠ 2 by decide), upd_ne L (show (11 : Nat) ≠ 2 by decide)]; exact hw.2⟩⟩
      · intro L a w1 hI hi hd
        obtain ⟨hp, hw⟩ := hI
        simp [Region.binds] at hd
        have e2 : a.tmps.getD 34 undef = (.pointer (some ⟨g, 5, none⟩)) := hp.pu (2, 34, (.pointer (some ⟨g, 5, none⟩))) (by simp [ma5P]) (by simp [hd])
        have f2 : a.tmps[34]?.getD undef = (.pointer (some ⟨g, 5, none⟩)) := by rw [← Array.getD_eq_getD_getElem?]; exact e2
        obtain ⟨d0, d1, d2, d3, d4, d5, d6, d7, d8, d9⟩ := hw.1.2.c10
        exact rstep_valW (wanted_none rfl _) (.int .u64 (till : Int)) w1 (by go_simp) ⟨(hp.put 3 35 (.int .u64 (till : Int)) (by simp [ma5P]) (by simp [ma5P]) rfl (by rw [hsz0]; exact (by decide : 35 < 119))), ⟨hw.1, by rw [upd_ne L (show (7 : Nat) ≠ 3 by decide), upd_ne L (show (9 : Nat) ≠ 3 by decide), upd_ne L (show (11 : Nat) ≠ 3 by decide)]; exact hw.2⟩⟩
      · intro L a w1 hI hi hd
        obtain ⟨hp, hw⟩ := hI
        have t1 := hp.at_ 1 _ rfl z1
        have t1' := t1
        rw [Array.getD_eq_getD_getElem?] at t1'
        exact rstep_valW (wanted_none rfl _) (.pointer (some ⟨g, 6, none⟩)) w1 (by go_simp) ⟨(hp.put 4 36 (.pointer (some ⟨g, 6, none⟩)) (by simp [ma5P]) (by simp [ma5P]) rfl (by rw [hsz0]; exact (by decide : 36 < 119))), ⟨hw.1, by rw [upd_ne L (show (7 : Nat) ≠ 4 by decide), upd_ne L (show (9 : Nat) ≠ 4 by decide), upd_ne L (show (11 : Nat) ≠ 4 by decide)]; exact hw.2⟩⟩
      · intro L a w1 hI hi hd
        obtain ⟨hp, hw⟩ := hI
        simp [Region.binds] at hd
        have e4 : a.tmps.getD 36 undef = (.pointer (some ⟨g, 6, none⟩)) := hp.pu (4, 36, (.pointer (some ⟨g, 6, none⟩))) (by simp [ma5P]) (by simp [hd])
        have f4 : a.tmps[36]?.getD undef = (.pointer (some ⟨g, 6, none⟩)) := by rw [← Array.getD_eq_getD_getElem?]; exact e4
        obtain ⟨d0, d1, d2, d3, d4, d5, d6, d7, d8, d9⟩ := hw.1.2.c10
        exact rstep_valW (wanted_none rfl _) (.int .i64 n) w1 (by go_simp) ⟨(hp.put 5 37 (.int .i64 n) (by simp [ma5P]) (by simp [ma5P]) rfl (by rw [hsz0]; exact (by decide : 37 < 119))), ⟨hw.1, by rw [upd_ne L (show (7 : Nat) ≠ 5 by decide), upd_ne L (show (9 : Nat) ≠ 5 by decide), upd_ne L (show (11 : Nat) ≠ 5 by decide)]; exact hw.2⟩⟩
      · intro L a w1 hI hi hd
        obtain ⟨hp, hw⟩ := hI
        have t3 := hp.at_ 3 _ rfl z3
        have t3' := t3
        rw [Array.getD_eq_getD_getElem?] at t3'
        exact rstep_valW (wanted_none rfl _) (.pointer (some ⟨g + 1, 4, none⟩)) w1 (by go_simp) ⟨(hp.put 6 38 (.pointer (some ⟨g + 1, 4, none⟩)) (by simp [ma5P]) (by simp [ma5P]) rfl (by rw [hsz0]; exact (by decide : 38 < 119))), ⟨hw.1, by rw [upd_ne L (show (7 : Nat) ≠ 6 by decide), upd_ne L (show (9 : Nat) ≠ 6 by decide), upd_ne L (show (11 : Nat) ≠ 6 by decide)]; exact hw.2⟩⟩
      · intro L a w1 hI hi hd
        obtain ⟨hp, hw⟩ := hI
        simp [Region.binds] at hd
        have e1 : a.tmps.getD 33 undef = (.int .u64 (key : Int)) := hp.pu (1, 33, (.int .u64 (key : Int))) (by simp [ma5P]) (by simp [hd])
        have f1 : a.tmps[33]?.getD undef = (.int .u64 (key : Int)) := by rw [← Array.getD_eq_getD_getElem?]; exact e1
        have e6 : a.tmps.getD 38 undef = (.pointer (some ⟨g + 1, 4, none⟩)) := hp.pu (6, 38, (.pointer (some ⟨g + 1, 4, none⟩))) (by simp [ma5P]) (by simp [hd])
        have f6 : a.tmps[38]?.getD undef = (.pointer (some ⟨g + 1, 4, none⟩)) := by rw [← Array.getD_eq_getD_getElem?]; exact e6
        have fz := hw.2.frozen 4
        have cz := hw.2.cell 4
        simp only [ma5Y, List.getElem?_toArray, List.getElem?_cons_zero, List.getElem?_cons_succ] at cz
        have hset := hw.2.set_ 4 (.int .u64 (key : Int))
        exact rstep_skip rfl (w1.setCell ⟨g + 1, 4, none⟩ (.int .u64 (key : Int))) (by go_simp) ⟨(hp.skip 7 undef (by simp [ma5P])), ⟨below_set hw.1.1 (by have := hw.2.lt; omega) (by omega) 4 _, hw.1.2.far (p := ⟨g + 1, 4, none⟩) (by simp) _⟩, by rw [upd_eq, upd_ne L (show (9 : Nat) ≠ 7 by decide), upd_ne L (show (11 : Nat) ≠ 7 by decide)]; exact hset⟩
      · intro L a w1 hI hi hd
        obtain ⟨hp, hw⟩ := hI
        have t3 := hp.at_ 3 _ rfl z3
        have t3' := t3
        rw [Array.getD_eq_getD_getElem?] at t3'
        exact rstep_valW (wanted_none rfl _) (.pointer (some ⟨g + 1, 5, none⟩)) w1 (by go_simp) ⟨(hp.put 8 39 (.pointer (some ⟨g + 1, 5, none⟩)) (by simp [ma5P]) (by simp [ma5P]) rfl (by rw [hsz0]; exact (by decide : 39 < 119))), ⟨hw.1, by rw [upd_ne L (show (7 : Nat) ≠ 8 by decide), upd_ne L (show (9 : Nat) ≠ 8 by decide), upd_ne L (show (11 : Nat) ≠ 8 by decide)]; exact hw.2⟩⟩
      · intro L a w1 hI hi hd
        obtain ⟨hp, hw⟩ := hI
        simp [Region.binds] at hd
        have e3 : a.tmps.getD 35 undef = (.int .u64 (till : Int)) := hp.pu (3, 35, (.int .u64 (till : Int))) (by simp [ma5P]) (by simp [hd])
        have f3 : a.tmps[35]?.getD undef = (.int .u64 (till : Int)) := by rw [← Array.getD_eq_getD_getElem?]; exact e3
        have e8 : a.tmps.getD 39 undef = (.pointer (some ⟨g + 1, 5, none⟩)) := hp.pu (8, 39, (.pointer (some ⟨g + 1, 5, none⟩))) (by simp [ma5P]) (by simp [hd])
        have f8 : a.tmps[39]?.getD undef = (.pointer (some ⟨g + 1, 5, none⟩)) := by rw [← Array.getD_eq_getD_getElem?]; exact e8
        have fz := hw.2.frozen 5
        have cz := hw.2.cell 5
        simp only [ma5Y, List.getElem?_toArray, List.getElem?_cons_zero, List.getElem?_cons_succ] at cz
        have hset := hw.2.set_ 5 (.int .u64 (till : Int))
        exact rstep_skip rfl (w1.setCell ⟨g + 1, 5, none⟩ (.int .u64 (till : Int))) (by go_simp) ⟨(hp.skip 9 undef (by simp [ma5P])), ⟨below_set hw.1.1 (by have := hw.2.lt; omega) (by omega) 5 _, hw.1.2.far (p := ⟨g + 1, 5, none⟩) (by simp) _⟩, by rw [upd_eq, upd_ne L (show (7 : Nat) ≠ 9 by decide), upd_ne L (show (11 : Nat) ≠ 9 by decide)]; exact hset⟩
      · intro L a w1 hI hi hd
        obtain ⟨hp, hw⟩ := hI
        have t3 := hp.at_ 3 _ rfl z3
        have t3' := t3
        rw [Array.getD_eq_getD_getElem?] at t3'
        exact rstep_valW (wanted_none rfl _) (.pointer (some ⟨g + 1, 6, none⟩)) w1 (by go_simp) ⟨(hp.put 10 40 (.pointer (some ⟨g + 1, 6, none⟩)) (by simp [ma5P]) (by simp [ma5P]) rfl (by rw [hsz0]; exact (by decide : 40 < 119))), ⟨hw.1, by rw [upd_ne L (show (7 : Nat) ≠ 10 by decide), upd_ne L (show (9 : Nat) ≠ 10 by decide), upd_ne L (show (11 : Nat) ≠ 10 by decide)]; exact hw.2⟩⟩
      · intro L a w1 hI hi hd
        obtain ⟨hp, hw⟩ := hI
        simp [Region.binds] at hd
        have e5 : a.tmps.getD 37 undef = (.int .i64 n) := hp.pu (5, 37, (.int .i64 n)) (by simp [ma5P]) (by simp [hd])
        have f5 : a.tmps[37]?.getD undef = (.int .i64 n) := by rw [← Array.getD_eq_getD_getElem?]; exact e5
        have e10 : a.tmps.getD 40 undef = (.pointer (some ⟨g + 1, 6, none⟩)) := hp.pu (10, 40, (.pointer (some ⟨g + 1, 6, none⟩))) (by simp [ma5P]) (by simp [hd])
        have f10 : a.tmps[40]?.getD undef = (.pointer (some ⟨g + 1, 6, none⟩)) := by rw [← Array.getD_eq_getD_getElem?]; exact e10
        have fz := hw.2.frozen 6
        have cz := hw.2.cell 6
        simp only [ma5Y, List.getElem?_toArray, List.getElem?_cons_zero, List.getElem?_cons_succ] at cz
        have hset := hw.2.set_ 6 (.int .i64 n)
        exact rstep_skip rfl (w1.setCell ⟨g + 1, 6, none⟩ (.int .i64 n)) (by go_simp) ⟨(hp.skip 11 undef (by simp [ma5P])), ⟨below_set hw.1.1 (by have := hw.2.lt; omega) (by omega) 6 _, hw.1.2.far (p := ⟨g + 1, 6, none⟩) (by simp) _⟩, by rw [upd_eq, upd_ne L (show (7 : Nat) ≠ 11 by decide), upd_ne L (show (9 : Nat) ≠ 11 by decide)]; exact hset⟩
    rintro L a W0 ⟨hp, hw⟩ hL
    have hyl := hw.2
    rw [hL 7 (by simp), hL 9 (by simp), hL 11 (by simp)] at hyl
    have B1 := Lib.hid hw.1.1
    have HU1 : Hid (Blk W0 g 42 #[.int .i64 5, .int .u64 (ik : Int), .slice A vec.length c, .slice A2 note.length c2, .int .u64 (key : Int), .int .u64 (till : Int), .int .i64 n, .slice QA q.length qc, .slice FA fl.length fc, .int .i64 sc] ∧ Blk W0 (g + 1) 42 #[.int .i64 5, .int .u64 0, .slice none 0 0, .slice none 0 0, .int .u64 (key : Int), .int .u64 (till : Int), .int .i64 n, .slice none 0 0, .slice none 0 0, .int .i64 0]) := Lib.hid (And.intro hw.1.2 hyl)
    clear hw hyl
    rw [hp.eq]
    refine of_assigns (P := Try.prog) _ _ _ _ ?_
    rw [ha0.out]
    simp only [asgs, List.map]
    generalize a.tmps.getD 32 undef = u32
    generalize a.tmps.getD 33 undef = u33
    generalize a.tmps.getD 34 undef = u34
    generalize a.tmps.getD 35 undef = u35
    generalize a.tmps.getD 36 undef = u36
    generalize a.tmps.getD 37 undef = u37
    generalize a.tmps.getD 38 undef = u38
    generalize a.tmps.getD 39 undef = u39
    generalize a.tmps.getD 40 undef = u40
    clear hp hL hsz0  z1 z3
    clear ha0
    have RX : Hid (Rqv.At ⟨⟨5, ⟨ik, vec, note⟩, key, till, n, q, fl, sc⟩, A, c, A2, c2, QA, qc, FA, fc⟩ W0) := Lib.hid (HSA.out _ B1.out)
    have RY : Hid (Rqv.At ⟨⟨5, ⟨0, [], []⟩, key, till, n, [], [], 0⟩, none, 0, none, 0, none, 0, none, 0⟩ W0) := Lib.hid ⟨.inl rfl, .inl rfl, .inl rfl, .inl rfl, ⟨by simp, StmM.no_ok, RX.out.ok.hkey, RX.out.ok.hto, RX.out.ok.hn, (fun v hv => by cases hv), (fun v hv => by cases hv), by simp⟩, Nat.zero_le _, Nat.zero_le _, Nat.zero_le _, Nat.zero_le _, Nat.zero_le _, Nat.zero_le _, Nat.zero_le _, Nat.zero_le _⟩
    have u1 := HU1.out.1
    have u2 := HU1.out.2
    go_wp2_with (first | (refine wpl_load_row rfl _ (.tmp 1) rfl (g) (by go_simp) _ #[.int .i64 5, .int .u64 (ik : Int), .slice A vec.length c, .slice A2 note.length c2, .int .u64 (key : Int), .int .u64 (till : Int), .int .i64 n, .slice QA q.length qc, .slice FA fl.length fc, .int .i64 sc] (0, 0) _ u1 Try.underlying42 rfl (by kernel_rfl) ?_) | (refine wpl_load_row rfl _ (.tmp 3) rfl (g + 1) (by go_simp) _ #[.int .i64 5, .int .u64 0, .slice none 0 0, .slice none 0 0, .int .u64 (key : Int), .int .u64 (till : Int), .int .i64 n, .slice none 0 0, .slice none 0 0, .int .i64 0] (0, 0) _ u2 Try.underlying42 rfl (by kernel_rfl) ?_))
    refine (stmsame_any ⟨⟨5, ⟨ik, vec, note⟩, key, till, n, q, fl, sc⟩, A, c, A2, c2, QA, qc, FA, fc⟩ ⟨⟨5, ⟨0, [], []⟩, key, till, n, [], [], 0⟩, none, 0, none, 0, none, 0, none, 0⟩ W0 RX.out RY.out).mono ?_
    rintro e V9 ⟨rfl, hb⟩
    have B9 := Lib.hid (below_step B1.out hb (Nat.le_of_eq HG.out.symm))
    obtain ⟨d0, d1, d2, d3, d4, d5, d6, d7, d8, d9⟩ := (u1.below hb u1.lt).c10
    clear hb u1 u2 d0 d1 d2 d3 d4 d5
    generalize hbq : StmM.same _ _ = bq
    have HS := Lib.hid hbq
    clear hbq
    cases bq with
    | false =>
      go_wp2
      go_ret
      exact ⟨by rw [may_no HM.out (fun q => by have h := HS.out; rw [h] at q; cases q)]; rfl, by rw [HG.out]; exact B9.out⟩
    | true =>
      go_wp2
      all_goals (go_ret; exact ⟨may_bool HM.out HOK.out HS.out (by constructor <;> intro q <;> first | omega | (simp at q ⊢; omega) | (simp at q; done) | (simp; omega)), by rw [HG.out]; exact B9.out⟩)
  by_cases k6 : kind = 6
  · subst k6
    as_aux_lemma =>
    have HM : Hid (StmM.may ⟨6, ⟨ik, vec, note⟩, key, till, n, q, fl, sc⟩ = true ↔ _) := Lib.hid (StmM.may_code (x := ⟨6, ⟨ik, vec, note⟩, key, till, n, q, fl, sc⟩) (y := ⟨6, ⟨0, [], []⟩, 0, 0, n, q, [], 0⟩) (ok := True) (by simp) (by simp [StmM.bare, StmM.nil, StmM.no]) (fun h => by have e := congrArg (fun z : Rq => z.it.note) ((StmM.same_iff _ _).1 h); simp [StmM.bare, StmM.nil, StmM.no] at e; subst e; simp [StmM.itOk]))
    have HOK : Hid True := Lib.hid trivial
    clear d0 d1 d2 d3 d4 d5 d6 d7 d8 d9 e0 e1 e2 e3 e4 e5 e6 e7 e8 e9
    have d0 := HU.out.1.c10.1
    go_upto_region 18 with fail
    refine wp_named fun a0 ha0 => ?_
    have z1 : a0.tmps.getD 1 undef = (.pointer (some ⟨g, 0, none⟩)) := by rw [ha0.out]; rfl
    have z3 : a0.tmps.getD 3 undef = (.pointer (some ⟨g + 1, 0, none⟩)) := by rw [ha0.out]; rfl
    have hsz0 : a0.tmps.size = 119 := by rw [ha0.out]; rfl
    refine wp_region_invB _ (by kernel_rfl) (fun L a wv => PIF a0 [43, 44, 45, 46, 47, 48] (ma6P g ik note A2 c2 key till n q fl sc QA qc FA fc) L a ∧ (Below g w wv ∧ Blk wv g 42 #[.int .i64 6, .int .u64 (ik : Int), .slice A vec.length c, .slice A2 note.length c2, .int .u64 (key : Int), .int .u64 (till : Int), .int .i64 n, .slice QA q.length qc, .slice FA fl.length fc, .int .i64 sc]) ∧ Blk wv (g + 1) 42 (ma6Y ik note A2 c2 key till n q fl sc QA qc FA fc (L 5) (L 7))) (by kernel_rfl) ?_ ?_ ?_
    · exact ⟨PIF.start _ _ _, ⟨B0.out.trans ⟨rfl, rfl, rfl, Nat.le_refl _, fun _ _ => rfl⟩, HU.out.1⟩, HU.out.2⟩
    rotate_left
    · as_aux_lemma =>
      refine ⟨?_, ?_, ?_, ?_, ?_, ?_, ?_, ?_, trivial⟩
      · intro L a w1 hI hi hd
        obtain ⟨hp, hw⟩ := hI
        have t1 := hp.at_ 1 _ rfl z1
        have t1' := t1
        rw [Array.getD_eq_getD_getElem?] at t1'
        exact rstep_valW (wanted_none rfl _) (.pointer (some ⟨g, 6, none⟩)) w1 (by go_simp) ⟨(hp.put 0 43 (.pointer (some ⟨g, 6, none⟩)) (by simp [ma6P]) (by simp [ma6P]) rfl (by rw [hsz0]; exact (by decide : 43 < 119))), ⟨hw.1, by rw [upd_ne L (show (5 : Nat) ≠ 0 by decide), upd_ne L (show (7 : Nat) ≠ 0 by decide)]; exact hw.2⟩⟩
      · intro L a w1 hI hi hd
        obtain ⟨hp, hw⟩ := hI
        simp [Region.binds] at hd
        have e0 : a.tmps.getD 43 undef = (.pointer (some ⟨g, 6, none⟩)) := hp.pu (0, 43, (.pointer (some ⟨g, 6, none⟩))) (by simp [ma6P]) (by simp [hd])
        have f0 : a.tmps[43]?.getD undef = (.pointer (some ⟨g, 6, none⟩)) := by rw [← Array.getD_eq_getD_getElem?]; exact e0
        obtain ⟨d0, d1, d2, d3, d4, d5, d6, d7, d8, d9⟩ := hw.1.2.c10
        exact rstep_valW (wanted_none rfl _) (.int .i64 n) w1 (by go_simp) ⟨(hp.put 1 44 (.int .i64 n) (by simp [ma6P]) (by simp [ma6P]) rfl (by rw [hsz0]; exact (by decide : 44 < 119))), ⟨hw.1, by rw [upd_ne L (show (5 : Nat) ≠ 1 by decide), upd_ne L (show (7 : Nat) ≠ 1 by decide)]; exact hw.2⟩⟩
      · intro L a w1 hI hi hd
        obtain ⟨hp, hw⟩ := hI
        have t1 := hp.at_ 1 _ rfl z1
        have t1' := t1
        rw [Array.getD_eq_getD_getElem?] at t1'
        exact rstep_valW (wanted_none rfl _) (.pointer (some ⟨g, 7, none⟩)) w1 (by go_simp) ⟨(hp.put 2 45 (.pointer (some ⟨g, 7, none⟩)) (by simp [ma6P]) (by simp [ma6P]) rfl (by rw [hsz0]; exact (by decide : 45 < 119))), ⟨hw.1, by rw [upd_ne L (show (5 : Nat) ≠ 2 by decide), upd_ne L (show (7 : Nat) ≠ 2 by decide)]; exact hw.2⟩⟩
      · intro L a w1 hI hi hd
        obtain ⟨hp, hw⟩ := hI
        simp [Region.binds] at hd
        have e2 : a.tmps.getD 45 undef = (.pointer (some ⟨g, 7, none⟩)) := hp.pu (2, 45, (.pointer (some ⟨g, 7, none⟩))) (by simp [ma6P]) (by simp [hd])
        have f2 : a.tmps[45]?.getD undef = (.pointer (some ⟨g, 7, none⟩)) := by rw [← Array.getD_eq_getD_getElem?]; exact e2
        obtain ⟨d0, d1, d2, d3, d4, d5, d6, d7, d8, d9⟩ := hw.1.2.c10
        exact rstep_valW (wanted_none rfl _) (.slice QA q.length qc) w1 (by go_simp) ⟨(hp.put 3 46 (.slice QA q.length qc) (by simp [ma6P]) (by simp [ma6P]) rfl (by rw [hsz0]; exact (by decide : 46 < 119))), ⟨hw.1, by rw [upd_ne L (show (5 : Nat) ≠ 3 by decide), upd_ne L (show (7 : Nat) ≠ 3 by decide)]; exact hw.2⟩⟩
      · intro L a w1 hI hi hd
        obtain ⟨hp, hw⟩ := hI
        have t3 := hp.at_ 3 _ rfl z3
        have t3' := t3
        rw [Array.getD_eq_getD_getElem?] at t3'
        exact rstep_valW (wanted_none rfl _) (.pointer (some ⟨g + 1, 6, none⟩)) w1 (by go_simp) ⟨(hp.put 4 47 (.pointer (some ⟨g + 1, 6, none⟩)) (by simp [ma6P]) (by simp [ma6P]) rfl (by rw [hsz0]; exact (by decide : 47 < 119))), ⟨hw.1, by rw [upd_ne L (show (5 : Nat) ≠ 4 by decide), upd_ne L (show (7 : Nat) ≠ 4 by decide)]; exact hw.2⟩⟩
      · intro L a w1 hI hi hd
        obtain ⟨hp, hw⟩ := hI
        simp [Region.binds] at hd
        have e1 : a.tmps.getD 44 undef = (.int .i64 n) := hp.pu (1, 44, (.int .i64 n)) (by simp [ma6P]) (by simp [hd])
        have f1 : a.tmps[44]?.getD undef = (.int .i64 n) := by rw [← Array.getD_eq_getD_getElem?]; exact e1
        have e4 : a.tmps.getD 47 undef = (.pointer (some ⟨g + 1, 6, none⟩)) := hp.pu (4, 47, (.pointer (some ⟨g + 1, 6, none⟩))) (by simp [ma6P]) (by simp [hd])
        have f4 : a.tmps[47]?.getD undef = (.pointer (some ⟨g + 1, 6, none⟩)) := by rw [← Array.getD_eq_getD_getElem?]; exact e4
        have fz := hw.2.frozen 6
        have cz := hw.2.cell 6
        simp only [ma6Y, List.getElem?_toArray, List.getElem?_cons_zero, List.getElem?_cons_succ] at cz
        have hset := hw.2.set_ 6 (.int .i64 n)
        exact rstep_skip rfl (w1.setCell ⟨g + 1, 6, none⟩ (.int .i64 n)) (by go_simp) ⟨(hp.skip 5 undef (by simp [ma6P])), ⟨below_set hw.1.1 (by have := hw.2.lt; omega) (by omega) 6 _, hw.1.2.far (p := ⟨g + 1, 6, none⟩) (by simp) _⟩, by rw [upd_eq, upd_ne L (show (7 : Nat) ≠ 5 by decide)]; exact hset⟩
      · intro L a w1 hI hi hd
        obtain ⟨hp, hw⟩ := hI
        have t3 := hp.at_ 3 _ rfl z3
        have t3' := t3
        rw [Array.getD_eq_getD_getElem?] at t3'
        exact rstep_valW (wanted_none rfl _) (.pointer (some ⟨g + 1, 7, none⟩)) w1 (by go_simp) ⟨(hp.put 6 48 (.pointer (some ⟨g + 1, 7, none⟩)) (by simp [ma6P]) (by simp [ma6P]) rfl (by rw [hsz0]; exact (by decide : 48 < 119))), ⟨hw.1, by rw [upd_ne L (show (5 : Nat) ≠ 6 by decide), upd_ne L (show (7 : Nat) ≠ 6 by decide)]; exact hw.2⟩⟩
      · intro L a w1 hI hi hd
        obtain ⟨hp, hw⟩ := hI
        simp [Region.binds] at hd
        have e3 : a.tmps.getD 46 undef = (.slice QA q.length qc) := hp.pu (3, 46, (.slice QA q.length qc)) (by simp [ma6P]) (by simp [hd])
        have f3 : a.tmps[46]?.getD undef = (.slice QA q.length qc) := by rw [← Array.getD_eq_getD_getElem?]; exact e3
        have e6 : a.tmps.getD 48 undef = (.pointer (some ⟨g + 1, 7, none⟩)) := hp.pu (6, 48, (.pointer (some ⟨g + 1, 7, none⟩))) (by simp [ma6P]) (by simp [hd])
        have f6 : a.tmps[48]?.getD undef = (.pointer (some ⟨g + 1, 7, none⟩)) := by rw [← Array.getD_eq_getD_getElem?]; exact e6
        have fz := hw.2.frozen 7
        have cz := hw.2.cell 7
        simp only [ma6Y, List.getElem?_toArray, List.getElem?_cons_zero, List.getElem?_cons_succ] at cz
        have hset := hw.2.set_ 7 (.slice QA q.length qc)
        exact rstep_skip rfl (w1.setCell ⟨g + 1, 7, none⟩ (.slice QA q.length qc)) (by go_simp) ⟨(hp.skip 7 undef (by simp [ma6P])), ⟨below_set hw.1.1 (by have := hw.2.lt; omega) (by omega) 7 _, hw.1.2.far (p := ⟨g + 1, 7, none⟩) (by simp) _⟩, by rw [upd_eq, upd_ne L (show (5 : Nat) ≠ 7 by decide)]; exact hset⟩
    rintro L a W0 ⟨hp, hw⟩ hL
    have hyl := hw.2
    rw [hL 5 (by simp), hL 7 (by simp)] at hyl
    have B1 := Lib.hid hw.1.1
    have HU1 : Hid (Blk W0 g 42 #[.int .i64 6, .int .u64 (ik : Int), .slice A vec.length c, .slice A2 note.length c2, .int .u64 (key : Int), .int .u64 (till : Int), .int .i64 n, .slice QA q.length qc, .slice FA fl.length fc, .int .i64 sc] ∧ Blk W0 (g + 1) 42 #[.int .i64 6, .int .u64 0, .slice none 0 0, .slice none 0 0, .int .u64 0, .int .u64 0, .int .i64 n, .slice QA q.length qc, .slice none 0 0, .int .i64 0]) := Lib.hid (And.intro hw.1.2 hyl)
    clear hw hyl
    rw [hp.eq]
    refine of_assigns (P := Try.prog) _ _ _ _ ?_
    rw [ha0.out]
    simp only [asgs, List.map]
    generalize a.tmps.getD 43 undef = u43
    generalize a.tmps.getD 44 undef = u44
    generalize a.tmps.getD 45 undef = u45
    generalize a.tmps.getD 46 undef = u46
    generalize a.tmps.getD 47 undef = u47
    generalize a.tmps.getD 48 undef = u48
    clear hp hL hsz0  z1 z3
    clear ha0
    have RX : Hid (Rqv.At ⟨⟨6, ⟨ik, vec, note⟩, key, till, n, q, fl, sc⟩, A, c, A2, c2, QA, qc, FA, fc⟩ W0) := Lib.hid (HSA.out _ B1.out)
    have RY : Hid (Rqv.At ⟨⟨6, ⟨0, [], []⟩, 0, 0, n, q, [], 0⟩, none, 0, none, 0, QA, qc, none, 0⟩ W0) := Lib.hid ⟨.inl rfl, .inl rfl, RX.out.r3, .inl rfl, ⟨by simp, StmM.no_ok, by simp, by simp, RX.out.ok.hn, RX.out.ok.hq, (fun v hv => by cases hv), by simp⟩, Nat.zero_le _, Nat.zero_le _, RX.out.l3, Nat.zero_le _, Nat.zero_le _, Nat.zero_le _, RX.out.m3, Nat.zero_le _⟩
    have u1 := HU1.out.1
    have u2 := HU1.out.2
    go_wp2_with (first | (refine wpl_load_row rfl _ (.tmp 1) rfl (g) (by go_simp) _ #[.int .i64 6, .int .u64 (ik : Int), .slice A vec.length c, .slice A2 note.length c2, .int .u64 (key : Int), .int .u64 (till : Int), .int .i64 n, .slice QA q.length qc, .slice FA fl.length fc, .int .i64 sc] (0, 0) _ u1 Try.underlying42 rfl (by kernel_rfl) ?_) | (refine wpl_load_row rfl _ (.tmp 3) rfl (g + 1) (by go_simp) _ #[.int .i64 6, .int .u64 0, .slice none 0 0, .slice none 0 0, .int .u64 0, .int .u64 0, .int .i64 n, .slice QA q.length qc, .slice none 0 0, .int .i64 0] (0, 0) _ u2 Try.underlying42 rfl (by kernel_rfl) ?_))
    refine (stmsame_any ⟨⟨6, ⟨ik, vec, note⟩, key, till, n, q, fl, sc⟩, A, c, A2, c2, QA, qc, FA, fc⟩ ⟨⟨6, ⟨0, [], []⟩, 0, 0, n, q, [], 0⟩, none, 0, none, 0, QA, qc, none, 0⟩ W0 RX.out RY.out).mono ?_
    rintro e V9 ⟨rfl, hb⟩
    have B9 := Lib.hid (below_step B1.out hb (Nat.le_of_eq HG.out.symm))
    obtain ⟨d0, d1, d2, d3, d4, d5, d6, d7, d8, d9⟩ := (u1.below hb u1.lt).c10
    clear hb u1 u2 d0 d1 d2 d3 d4 d5
    generalize hbq : StmM.same _ _ = bq
    have HS := Lib.hid hbq
    clear hbq
    cases bq with
    | false =>
      go_wp2
      go_ret
      exact ⟨by rw [may_no HM.out (fun q => by have h := HS.out; rw [h] at q; cases q)]; rfl, by rw [HG.out]; exact B9.out⟩
    | true =>
      go_wp2
      all_goals (go_ret; exact ⟨may_bool HM.out HOK.out HS.out (by constructor <;> intro q <;> first | omega | (simp at q ⊢; omega) | (simp at q; done) | (simp; omega)), by rw [HG.out]; exact B9.out⟩)
  by_cases k7 : kind = 7
  · subst k7
    as_aux_lemma =>
    have HM : Hid (StmM.may ⟨7, ⟨ik, vec, note⟩, key, till, n, q, fl, sc⟩ = true ↔ _) := Lib.hid (StmM.may_code (x := ⟨7, ⟨ik, vec, note⟩, key, till, n, q, fl, sc⟩) (y := ⟨7, ⟨0, [], []⟩, 0, 0, 0, [], [], 0⟩) (ok := True) (by simp) (by simp [StmM.bare, StmM.nil, StmM.no]) (fun h => by have e := congrArg (fun z : Rq => z.it.note) ((StmM.same_iff _ _).1 h); simp [StmM.bare, StmM.nil, StmM.no] at e; subst e; simp [StmM.itOk]))
    have HOK : Hid True := Lib.hid trivial
    go_upto_region 25 with fail
    have HU1 := HU
    have B1 := B0
    have RX : Hid (Rqv.At ⟨⟨7, ⟨ik, vec, note⟩, key, till, n, q, fl, sc⟩, A, c, A2, c2, QA, qc, FA, fc⟩ V0) := Lib.hid (HSA.out _ B1.out)
    have RY : Hid (Rqv.At ⟨⟨7, ⟨0, [], []⟩, 0, 0, 0, [], [], 0⟩, none, 0, none, 0, none, 0, none, 0⟩ V0) := Lib.hid ⟨.inl rfl, .inl rfl, .inl rfl, .inl rfl, ⟨by simp, StmM.no_ok, by simp, by simp, by simp, (fun v hv => by cases hv), (fun v hv => by cases hv), by simp⟩, Nat.zero_le _, Nat.zero_le _, Nat.zero_le _, Nat.zero_le _, Nat.zero_le _, Nat.zero_le _, Nat.zero_le _, Nat.zero_le _⟩
    have u1 := HU1.out.1
    have u2 := HU1.out.2
    go_wp2_with (first | (refine wpl_load_row rfl _ (.tmp 1) rfl (g) (by go_simp) _ #[.int .i64 7, .int .u64 (ik : Int), .slice A vec.length c, .slice A2 note.length c2, .int .u64 (key : Int), .int .u64 (till : Int), .int .i64 n, .slice QA q.length qc, .slice FA fl.length fc, .int .i64 sc] (0, 0) _ u1 Try.underlying42 rfl (by kernel_rfl) ?_) | (refine wpl_load_row rfl _ (.tmp 3) rfl (g + 1) (by go_simp) _ #[.int .i64 7, .int .u64 0, .slice none 0 0, .slice none 0 0, .int .u64 0, .int .u64 0, .int .i64 0, .slice none 0 0, .slice none 0 0, .int .i64 0] (0, 0) _ u2 Try.underlying42 rfl (by kernel_rfl) ?_))
    refine (stmsame_any ⟨⟨7, ⟨ik, vec, note⟩, key, till, n, q, fl, sc⟩, A, c, A2, c2, QA, qc, FA, fc⟩ ⟨⟨7, ⟨0, [], []⟩, 0, 0, 0, [], [], 0⟩, none, 0, none, 0, none, 0, none, 0⟩ V0 RX.out RY.out).mono ?_
    rintro e V9 ⟨rfl, hb⟩
    have B9 := Lib.hid (below_step B1.out hb (Nat.le_of_eq HG.out.symm))
    obtain ⟨d0, d1, d2, d3, d4, d5, d6, d7, d8, d9⟩ := (u1.below hb u1.lt).c10
    clear hb u1 u2 d0 d1 d2 d3 d4 d5
    generalize hbq : StmM.same _ _ = bq
    have HS := Lib.hid hbq
    clear hbq
    cases bq with
    | false =>
      go_wp2
      go_ret
      exact ⟨by rw [may_no HM.out (fun q => by have h := HS.out; rw [h] at q; cases q)]; rfl, by rw [HG.out]; exact B9.out⟩
    | true =>
      go_wp2
      all_goals (go_ret; exact ⟨may_bool HM.out HOK.out HS.out (by constructor <;> intro q <;> first | omega | (simp at q ⊢; omega) | (simp at q; done) | (simp; omega)), by rw [HG.out]; exact B9.out⟩)
  by_cases k8 : kind = 8
  · subst k8
    as_aux_lemma =>
    have HM : Hid (StmM.may ⟨8, ⟨ik, vec, note⟩, key, till, n, q, fl, sc⟩ = true ↔ _) := Lib.hid (StmM.may_code (x := ⟨8, ⟨ik, vec, note⟩, key, till, n, q, fl, sc⟩) (y := ⟨8, ⟨0, [], []⟩, 0, 0, 0, [], [], 0⟩) (ok := True) (by simp) (by simp [StmM.bare, StmM.nil, StmM.no]) (fun h => by have e := congrArg (fun z : Rq => z.it.note) ((StmM.same_iff _ _).1 h); simp [StmM.bare, StmM.nil, StmM.no] at e; subst e; simp [StmM.itOk]))
    have HOK : Hid True := Lib.hid trivial
    go_upto_region 25 with fail
    have HU1 := HU
    have B1 := B0
    have RX : Hid (Rqv.At ⟨⟨8, ⟨ik, vec, note⟩, key, till, n, q, fl, sc⟩, A, c, A2, c2, QA, qc, FA, fc⟩ V0) := Lib.hid (HSA.out _ B1.out)
    have RY : Hid (Rqv.At ⟨⟨8, ⟨0, [], []⟩, 0, 0, 0, [], [], 0⟩, none, 0, none, 0, none, 0, none, 0⟩ V0) := Lib.hid ⟨.inl rfl, .inl rfl, .inl rfl, .inl rfl, ⟨by simp, StmM.no_ok, by simp, by simp, by simp, (fun v hv => by cases hv), (fun v hv => by cases hv), by simp⟩, Nat.zero_le _, Nat.zero_le _, Nat.zero_le _, Nat.zero_le _, Nat.zero_le _, Nat.zero_le _, Nat.zero_le _, Nat.zero_le _⟩
    have u1 := HU1.out.1
    have u2 := HU1.out.2
    go_wp2_with (first | (refine wpl_load_row rfl _ (.tmp 1) rfl (g) (by go_simp) _ #[.int .i64 8, .int .u64 (ik : Int), .slice A vec.length c, .slice A2 note.length c2, .int .u64 (key : Int), .int .u64 (till : Int), .int .i64 n, .slice QA q.length qc, .slice FA fl.length fc, .int .i64 sc] (0, 0) _ u1 Try.underlying42 rfl (by kernel_rfl) ?_) | (refine wpl_load_row rfl _ (.tmp 3) rfl (g + 1) (by go_simp) _ #[.int .i64 8, .int .u64 0, .slice none 0 0, .slice none 0 0, .int .u64 0, .int .u64 0, .int .i64 0, .slice none 0 0, .slice none 0 0, .int .i64 0] (0, 0) _ u2 Try.underlying42 rfl (by kernel_rfl) ?_))
    refine (stmsame_any ⟨⟨8, ⟨ik, vec, note⟩, key, till, n, q, fl, sc⟩, A, c, A2, c2, QA, qc, FA, fc⟩ ⟨⟨8, ⟨0, [], []⟩, 0, 0, 0, [], [], 0⟩, none, 0, none, 0, none, 0, none, 0⟩ V0 RX.out RY.out).mono ?_
    rintro e V9 ⟨rfl, hb⟩
    have B9 := Lib.hid (below_step B1.out hb (Nat.le_of_eq HG.out.symm))
    obtain ⟨d0, d1, d2, d3, d4, d5, d6, d7, d8, d9⟩ := (u1.below hb u1.lt).c10
    clear hb u1 u2 d0 d1 d2 d3 d4 d5
    generalize hbq : StmM.same _ _ = bq
    have HS := Lib.hid hbq
    clear hbq
    cases bq with
    | false =>
      go_wp2
      go_ret
      exact ⟨by rw [may_no HM.out (fun q => by have h := HS.out; rw [h] at q; cases q)]; rfl, by rw [HG.out]; exact B9.out⟩
    | true =>
      go_wp2
      all_goals (go_ret; exact ⟨may_bool HM.out HOK.out HS.out (by constructor <;> intro q <;> first | omega | (simp at q ⊢; omega) | (simp at q; done) | (simp; omega)), by rw [HG.out]; exact B9.out⟩)
  by_cases k9 : kind = 9
  · subst k9
    as_aux_lemma =>
    have HM : Hid (StmM.may ⟨9, ⟨ik, vec, note⟩, key, till, n, q, fl, sc⟩ = true ↔ _) := Lib.hid (StmM.may_code (x := ⟨9, ⟨ik, vec, note⟩, key, till, n, q, fl, sc⟩) (y := ⟨9, ⟨0, [], []⟩, 0, 0, 0, [], [], 0⟩) (ok := True) (by simp) (by simp [StmM.bare, StmM.nil, StmM.no]) (fun h => by have e := congrArg (fun z : Rq => z.it.note) ((StmM.same_iff _ _).1 h); simp [StmM.bare, StmM.nil, StmM.no] at e; subst e; simp [StmM.itOk]))
    have HOK : Hid True := Lib.hid trivial
    go_upto_region 25 with fail
    have HU1 := HU
    have B1 := B0
    have RX : Hid (Rqv.At ⟨⟨9, ⟨ik, vec, note⟩, key, till, n, q, fl, sc⟩, A, c, A2, c2, QA, qc, FA, fc⟩ V0) := Lib.hid (HSA.out _ B1.out)
    have RY : Hid (Rqv.At ⟨⟨9, ⟨0, [], []⟩, 0, 0, 0, [], [], 0⟩, none, 0, none, 0, none, 0, none, 0⟩ V0) := Lib.hid ⟨.inl rfl, .inl rfl, .inl rfl, .inl rfl, ⟨by simp, StmM.no_ok, by simp, by simp, by simp, (fun v hv => by cases hv), (fun v hv => by cases hv), by simp⟩, Nat.zero_le _, Nat.zero_le _, Nat.zero_le _, Nat.zero_le _, Nat.zero_le _, Nat.zero_le _, Nat.zero_le _, Nat.zero_le _⟩
    have u1 := HU1.out.1
    have u2 := HU1.out.2
    go_wp2_with (first | (refine wpl_load_row rfl _ (.tmp 1) rfl (g) (by go_simp) _ #[.int .i64 9, .int .u64 (ik : Int), .slice A vec.length c, .slice A2 note.length c2, .int .u64 (key : Int), .int .u64 (till : Int), .int .i64 n, .slice QA q.length qc, .slice FA fl.length fc, .int .i64 sc] (0, 0) _ u1 Try.underlying42 rfl (by kernel_rfl) ?_) | (refine wpl_load_row rfl _ (.tmp 3) rfl (g + 1) (by go_simp) _ #[.int .i64 9, .int .u64 0, .slice none 0 0, .slice none 0 0, .int .u64 0, .int .u64 0, .int .i64 0, .slice none 0 0, .slice none 0 0, .int .i64 0] (0, 0) _ u2 Try.underlying42 rfl (by kernel_rfl) ?_))
    refine (stmsame_any ⟨⟨9, ⟨ik, vec, note⟩, key, till, n, q, fl, sc⟩, A, c, A2, c2, QA, qc, FA, fc⟩ ⟨⟨9, ⟨0, [], []⟩, 0, 0, 0, [], [], 0⟩, none, 0, none, 0, none, 0, none, 0⟩ V0 RX.out RY.out).mono ?_
    rintro e V9 ⟨rfl, hb⟩
    have B9 := Lib.hid (below_step B1.out hb (Nat.le_of_eq HG.out.symm))
    obtain ⟨d0, d1, d2, d3, d4, d5, d6, d7, d8, d9⟩ := (u1.below hb u1.lt).c10
    clear hb u1 u2 d0 d1 d2 d3 d4 d5
    generalize hbq : StmM.same _ _ = bq
    have HS := Lib.hid hbq
    clear hbq
    cases bq with
    | false =>
      go_wp2
      go_ret
      exact ⟨by rw [may_no HM.out (fun q => by have h := HS.out; rw [h] at q; cases q)]; rfl, by rw [HG.out]; exact B9.out⟩
    | true =>
      go_wp2
      all_goals (go_ret; exact ⟨may_bool HM.out HOK.out HS.out (by constructor <;> intro q <;> first | omega | (simp at q ⊢; omega) | (simp at q; done) | (simp; omega)), by rw [HG.out]; exact B9.out⟩)
  by_cases k10 : kind = 10
  · subst k10
    as_aux_lemma =>
    have HM : Hid (StmM.may ⟨10, ⟨ik, vec, note⟩, key, till, n, q, fl, sc⟩ = true ↔ _) := Lib.hid (StmM.may_code (x := ⟨10, ⟨ik, vec, note⟩, key, till, n, q, fl, sc⟩) (y := ⟨10, ⟨ik, [], note⟩, 0, 0, 0, [], fl, sc⟩) (ok := note.length ≤ 1024) (by simp) (by simp [StmM.bare, StmM.nil, StmM.no]) (fun _ => by simp [StmM.itOk]))
    have hy : Blk (((V0.setCell ⟨g + 1, 1, none⟩ (.int .u64 (ik : Int))).setCell ⟨g + 1, 2, none⟩ (.slice none 0 0)).setCell ⟨g + 1, 3, none⟩ (.slice A2 note.length c2)) (g + 1) 42 #[.int .i64 10, .int .u64 (ik : Int), .slice none 0 0, .slice A2 note.length c2, .int .u64 0, .int .u64 0, .int .i64 0, .slice none 0 0, .slice none 0 0, .int .i64 0] := (((HU.out.2.set_ 1 (.int .u64 (ik : Int))).set_ 2 (.slice none 0 0)).set_ 3 (.slice A2 note.length c2))
    have hx : Blk (((V0.setCell ⟨g + 1, 1, none⟩ (.int .u64 (ik : Int))).setCell ⟨g + 1, 2, none⟩ (.slice none 0 0)).setCell ⟨g + 1, 3, none⟩ (.slice A2 note.length c2)) g 42 #[.int .i64 10, .int .u64 (ik : Int), .slice A vec.length c, .slice A2 note.length c2, .int .u64 (key : Int), .int .u64 (till : Int), .int .i64 n, .slice QA q.length qc, .slice FA fl.length fc, .int .i64 sc] := (((HU.out.1.far (p := ⟨g + 1, 1, none⟩) (by simp) (.int .u64 (ik : Int))).far (p := ⟨g + 1, 2, none⟩) (by simp) (.slice none 0 0)).far (p := ⟨g + 1, 3, none⟩) (by simp) (.slice A2 note.length c2))
    have hb1 : Below g w (((V0.setCell ⟨g + 1, 1, none⟩ (.int .u64 (ik : Int))).setCell ⟨g + 1, 2, none⟩ (.slice none 0 0)).setCell ⟨g + 1, 3, none⟩ (.slice A2 note.length c2)) := sets_below B0.out (by have := HU.out.2.lt; omega) (by omega : g ≤ g + 1) [(1, .int .u64 (ik : Int)), (2, .slice none 0 0), (3, .slice A2 note.length c2)]
    have fz1 := HU.out.2.frozen 1
    have fz2 := HU.out.2.frozen 2
    have fz3 := HU.out.2.frozen 3
    go_upto_region 21 with fail
    clear fz1
    clear fz2
    clear fz3
    generalize (((V0.setCell ⟨g + 1, 1, none⟩ (.int .u64 (ik : Int))).setCell ⟨g + 1, 2, none⟩ (.slice none 0 0)).setCell ⟨g + 1, 3, none⟩ (.slice A2 note.length c2)) = V1 at *
    have B1 := Lib.hid hb1
    have HU1 := Lib.hid (And.intro hx hy)
    clear hx hy hb1 d0 d1 d2 d3 d4 d5 d6 d7 d8 d9 e0 e1 e2 e3 e4 e5 e6 e7 e8 e9
    have B0' := B1
    have HU' := HU1
    clear B0 HU B1 HU1
    refine wp_named fun a0 ha0 => ?_
    have z1 : a0.tmps.getD 1 undef = (.pointer (some ⟨g, 0, none⟩)) := by rw [ha0.out]; rfl
    have z3 : a0.tmps.getD 3 undef = (.pointer (some ⟨g + 1, 0, none⟩)) := by rw [ha0.out]; rfl
    have hsz0 : a0.tmps.size = 119 := by rw [ha0.out]; rfl
    refine wp_region_invB _ (by kernel_rfl) (fun L a wv => PIF a0 [59, 60, 61, 62, 63, 64] (ma10P g ik note A2 c2 key till n q fl sc QA qc FA fc) L a ∧ (Below g w wv ∧ Blk wv g 42 #[.int .i64 10, .int .u64 (ik : Int), .slice A vec.length c, .slice A2 note.length c2, .int .u64 (key : Int), .int .u64 (till : Int), .int .i64 n, .slice QA q.length qc, .slice FA fl.length fc, .int .i64 sc]) ∧ Blk wv (g + 1) 42 (ma10Y ik note A2 c2 key till n q fl sc QA qc FA fc (L 5) (L 7))) (by kernel_rfl) ?_ ?_ ?_
    · exact ⟨PIF.start _ _ _, ⟨B0'.out.trans ⟨rfl, rfl, rfl, Nat.le_refl _, fun _ _ => rfl⟩, HU'.out.1⟩, HU'.out.2⟩
    rotate_left
    · as_aux_lemma =>
      refine ⟨?_, ?_, ?_, ?_, ?_, ?_, ?_, ?_, trivial⟩
      · intro L a w1 hI hi hd
        obtain ⟨hp, hw⟩ := hI
        have t1 := hp.at_ 1 _ rfl z1
        have t1' := t1
        rw [Array.getD_eq_getD_getElem?] at t1'
        exact rstep_valW (wanted_none rfl _) (.pointer (some ⟨g, 8, none⟩)) w1 (by go_simp) ⟨(hp.put 0 59 (.pointer (some ⟨g, 8, none⟩)) (by simp [ma10P]) (by simp [ma10P]) rfl (by rw [hsz0]; exact (by decide : 59 < 119))), ⟨hw.1, by rw [upd_ne L (show (5 : Nat) ≠ 0 by decide), upd_ne L (show (7 : Nat) ≠ 0 by decide)]; exact hw.2⟩⟩
      · intro L a w1 hI hi hd
        obtain ⟨hp, hw⟩ := hI
        simp [Region.binds] at hd
        have e0 : a.tmps.getD 59 undef = (.pointer (some ⟨g, 8, none⟩)) := hp.pu (0, 59, (.pointer (some ⟨g, 8, none⟩))) (by simp [ma10P]) (by simp [hd])
        have f0 : a.tmps[59]?.getD undef = (.pointer (some ⟨g, 8, none⟩)) := by rw [← Array.getD_eq_getD_getElem?]; exact e0
        obtain ⟨d0, d1, d2, d3, d4, d5, d6, d7, d8, d9⟩ := hw.1.2.c10
        exact rstep_valW (wanted_none rfl _) (.slice FA fl.length fc) w1 (by go_simp) ⟨(hp.put 1 60 (.slice FA fl.length fc) (by simp [ma10P]) (by simp [ma10P]) rfl (by rw [hsz0]; exact (by decide : 60 < 119))), ⟨hw.1, by rw [upd_ne L (show (5 : Nat) ≠ 1 by decide), upd_ne L (show (7 : Nat) ≠ 1 by decide)]; exact hw.2⟩⟩
      · intro L a w1 hI hi hd
        obtain ⟨hp, hw⟩ := hI
        have t1 := hp.at_ 1 _ rfl z1
        have t1' := t1
        rw [Array.getD_eq_getD_getElem?] at t1'
        exact rstep_valW (wanted_none rfl _) (.pointer (some ⟨g, 9, none⟩)) w1 (by go_simp) ⟨(hp.put 2 61 (.pointer (some ⟨g, 9, none⟩)) (by simp [ma10P]) (by simp [ma10P]) rfl (by rw [hsz0]; exact (by decide : 61 < 119))), ⟨hw.1, by rw [upd_ne L (show (5 : Nat) ≠ 2 by decide), upd_ne L (show (7 : Nat) ≠ 2 by decide)]; exact hw.2⟩⟩
      · intro L a w1 hI hi hd
        obtain ⟨hp, hw⟩ := hI
        simp [Region.binds] at hd
        have e2 : a.tmps.getD 61 undef = (.pointer (some ⟨g, 9, none⟩)) := hp.pu (2, 61, (.pointer (some ⟨g, 9, none⟩))) (by simp [ma10P]) (by simp [hd])
        have f2 : a.tmps[61]?.getD undef = (.pointer (some ⟨g, 9, none⟩)) := by rw [← Array.getD_eq_getD_getElem?]; exact e2
        obtain ⟨d0, d1, d2, d3, d4, d5, d6, d7, d8, d9⟩ := hw.1.2.c10
        exact rstep_valW (wanted_none rfl _) (.int .i64 sc) w1 (by go_simp) ⟨(hp.put 3 62 (.int .i64 sc) (by simp [ma10P]) (by simp [ma10P]) rfl (by rw [hsz0]; exact (by decide : 62 < 119))), ⟨hw.1, by rw [upd_ne L (show (5 : Nat) ≠ 3 by decide), upd_ne L (show (7 : Nat) ≠ 3 by decide)]; exact hw.2⟩⟩
      · intro L a w1 hI hi hd
        obtain ⟨hp, hw⟩ := hI
        have t3 := hp.at_ 3 _ rfl z3
        have t3' := t3
        rw [Array.getD_eq_getD_getElem?] at t3'
        exact rstep_valW (wanted_none rfl _) (.pointer (some ⟨g + 1, 8, none⟩)) w1 (by go_simp) ⟨(hp.put 4 63 (.pointer (some ⟨g + 1, 8, none⟩)) (by simp [ma10P]) (by simp [ma10P]) rfl (by rw [hsz0]; exact (by decide : 63 < 119))), ⟨hw.1, by rw [upd_ne L (show (5 : Nat) ≠ 4 by decide), upd_ne L (show (7 : Nat) ≠ 4 by decide)]; exact hw.2⟩⟩
      · intro L a w1 hI hi hd
        obtain ⟨hp, hw⟩ := hI
        simp [Region.binds] at hd
        have e1 : a.tmps.getD 60 undef = (.slice FA fl.length fc) := hp.pu (1, 60, (.slice FA fl.length fc)) (by simp [ma10P]) (by simp [hd])
        have f1 : a.tmps[60]?.getD undef = (.slice FA fl.length fc) := by rw [← Array.getD_eq_getD_getElem?]; exact e1
        have e4 : a.tmps.getD 63 undef = (.pointer (some ⟨g + 1, 8, none⟩)) := hp.pu (4, 63, (.pointer (some ⟨g + 1, 8, none⟩))) (by simp [ma10P]) (by simp [hd])
        have f4 : a.tmps[63]?.getD undef = (.pointer (some ⟨g + 1, 8, none⟩)) := by rw [← Array.getD_eq_getD_getElem?]; exact e4
        have fz := hw.2.frozen 8
        have cz := hw.2.cell 8
        simp only [ma10Y, List.getElem?_toArray, List.getElem?_cons_zero, List.getElem?_cons_succ] at cz
        have hset := hw.2.set_ 8 (.slice FA fl.length fc)
        exact rstep_skip rfl (w1.setCell ⟨g + 1, 8, none⟩ (.slice FA fl.length fc)) (by go_simp) ⟨(hp.skip 5 undef (by simp [ma10P])), ⟨below_set hw.1.1 (by have := hw.2.lt; omega) (by omega) 8 _, hw.1.2.far (p := ⟨g + 1, 8, none⟩) (by simp) _⟩, by rw [upd_eq, upd_ne L (show (7 : Nat) ≠ 5 by decide)]; exact hset⟩
      · intro L a w1 hI hi hd
        obtain ⟨hp, hw⟩ := hI
        have t3 := hp.at_ 3 _ rfl z3
        have t3' := t3
        rw [Array.getD_eq_getD_getElem?] at t3'
        exact rstep_valW (wanted_none rfl _) (.pointer (some ⟨g + 1, 9, none⟩)) w1 (by go_simp) ⟨(hp.put 6 64 (.pointer (some ⟨g + 1, 9, none⟩)) (by simp [ma10P]) (by simp [ma10P]) rfl (by rw [hsz0]; exact (by decide : 64 < 119))), ⟨hw.1, by rw [upd_ne L (show (5 : Nat) ≠ 6 by decide), upd_ne L (show (7 : Nat) ≠ 6 by decide)]; exact hw.2⟩⟩
      · intro L a w1 hI hi hd
        obtain ⟨hp, hw⟩ := hI
        simp [Region.binds] at hd
        have e3 : a.tmps.getD 62 undef = (.int .i64 sc) := hp.pu (3, 62, (.int .i64 sc)) (by simp [ma10P]) (by simp [hd])
        have f3 : a.tmps[62]?.getD undef = (.int .i64 sc) := by rw [← Array.getD_eq_getD_getElem?]; exact e3
        have e6 : a.tmps.getD 64 undef = (.pointer (some ⟨g + 1, 9, none⟩)) := hp.pu (6, 64, (.pointer (some ⟨g + 1, 9, none⟩))) (by simp [ma10P]) (by simp [hd])
        have f6 : a.tmps[64]?.getD undef = (.pointer (some ⟨g + 1, 9, none⟩)) := by rw [← Array.getD_eq_getD_getElem?]; exact e6
        have fz := hw.2.frozen 9
        have cz := hw.2.cell 9
        simp only [ma10Y, List.getElem?_toArray, List.getElem?_cons_zero, List.getElem?_cons_succ] at cz
        have hset := hw.2.set_ 9 (.int .i64 sc)
        exact rstep_skip rfl (w1.setCell ⟨g + 1, 9, none⟩ (.int .i64 sc)) (by go_simp) ⟨(hp.skip 7 undef (by simp [ma10P])), ⟨below_set hw.1.1 (by have := hw.2.lt; omega) (by omega) 9 _, hw.1.2.far (p := ⟨g + 1, 9, none⟩) (by simp) _⟩, by rw [upd_eq, upd_ne L (show (5 : Nat) ≠ 7 by decide)]; exact hset⟩
    rintro L a W0 ⟨hp, hw⟩ hL
    have hyl := hw.2
    rw [hL 5 (by simp), hL 7 (by simp)] at hyl
    have B1 := Lib.hid hw.1.1
    have HU1 : Hid (Blk W0 g 42 #[.int .i64 10, .int .u64 (ik : Int), .slice A vec.length c, .slice A2 note.length c2, .int .u64 (key : Int), .int .u64 (till : Int), .int .i64 n, .slice QA q.length qc, .slice FA fl.length fc, .int .i64 sc] ∧ Blk W0 (g + 1) 42 #[.int .i64 10, .int .u64 (ik : Int), .slice none 0 0, .slice A2 note.length c2, .int .u64 0, .int .u64 0, .int .i64 0, .slice none 0 0, .slice FA fl.length fc, .int .i64 sc]) := Lib.hid (And.intro hw.1.2 hyl)
    clear hw hyl
    rw [hp.eq]
    refine of_assigns (P := Try.prog) _ _ _ _ ?_
    rw [ha0.out]
    simp only [asgs, List.map]
    generalize a.tmps.getD 59 undef = u59
    generalize a.tmps.getD 60 undef = u60
    generalize a.tmps.getD 61 undef = u61
    generalize a.tmps.getD 62 undef = u62
    generalize a.tmps.getD 63 undef = u63
    generalize a.tmps.getD 64 undef = u64
    clear hp hL hsz0  z1 z3
    clear ha0
    have d3 := HU1.out.1.c10.2.2.2.1
    by_cases hz : note.length ≤ 1024
    · have HOK := Lib.hid hz
      have hzi : decide ((note.length : Int) ≤ 1024) = true := decide_eq_true (by omega)
      go_upto_region 25 with fail
      clear d3
      have RX : Hid (Rqv.At ⟨⟨10, ⟨ik, vec, note⟩, key, till, n, q, fl, sc⟩, A, c, A2, c2, QA, qc, FA, fc⟩ W0) := Lib.hid (HSA.out _ B1.out)
      have RY : Hid (Rqv.At ⟨⟨10, ⟨ik, [], note⟩, 0, 0, 0, [], fl, sc⟩, none, 0, A2, c2, none, 0, FA, fc⟩ W0) := Lib.hid ⟨.inl rfl, RX.out.r2, .inl rfl, RX.out.r4, ⟨by simp, ⟨RX.out.ok.hit.hk, (fun v hv => by cases hv)⟩, by simp, by simp, by simp, (fun v hv => by cases hv), RX.out.ok.hfl, RX.out.ok.hsc⟩, Nat.zero_le _, RX.out.l2, Nat.zero_le _, RX.out.l4, Nat.zero_le _, RX.out.m2, Nat.zero_le _, RX.out.m4⟩
      have u1 := HU1.out.1
      have u2 := HU1.out.2
      go_wp2_with (first | (refine wpl_load_row rfl _ (.tmp 1) rfl (g) (by go_simp) _ #[.int .i64 10, .int .u64 (ik : Int), .slice A vec.length c, .slice A2 note.length c2, .int .u64 (key : Int), .int .u64 (till : Int), .int .i64 n, .slice QA q.length qc, .slice FA fl.length fc, .int .i64 sc] (0, 0) _ u1 Try.underlying42 rfl (by kernel_rfl) ?_) | (refine wpl_load_row rfl _ (.tmp 3) rfl (g + 1) (by go_simp) _ #[.int .i64 10, .int .u64 (ik : Int), .slice none 0 0, .slice A2 note.length c2, .int .u64 0, .int .u64 0, .int .i64 0, .slice none 0 0, .slice FA fl.length fc, .int .i64 sc] (0, 0) _ u2 Try.underlying42 rfl (by kernel_rfl) ?_))
      refine (stmsame_any ⟨⟨10, ⟨ik, vec, note⟩, key, till, n, q, fl, sc⟩, A, c, A2, c2, QA, qc, FA, fc⟩ ⟨⟨10, ⟨ik, [], note⟩, 0, 0, 0, [], fl, sc⟩, none, 0, A2, c2, none, 0, FA, fc⟩ W0 RX.out RY.out).mono ?_
      rintro e V9 ⟨rfl, hb⟩
      have B9 := Lib.hid (below_step B1.out hb (Nat.le_of_eq HG.out.symm))
      obtain ⟨d0, d1, d2, d3, d4, d5, d6, d7, d8, d9⟩ := (u1.below hb u1.lt).c10
      clear hb u1 u2 d0 d1 d2 d3 d4 d5
      generalize hbq : StmM.same _ _ = bq
      have HS := Lib.hid hbq
      clear hbq
      cases bq with
      | false =>
        go_wp2
        go_ret
        exact ⟨by rw [may_no HM.out (fun q => by have h := HS.out; rw [h] at q; cases q)]; rfl, by rw [HG.out]; exact B9.out⟩
      | true =>
        go_wp2
        all_goals (go_ret; exact ⟨may_bool HM.out HOK.out HS.out (by constructor <;> intro q <;> first | omega | (simp at q ⊢; omega) | (simp at q; done) | (simp; omega)), by rw [HG.out]; exact B9.out⟩)
    · have HZ := Lib.hid hz
      have hzi : decide ((note.length : Int) ≤ 1024) = false := decide_eq_false (by omega)
      go_wp2
      go_ret
      exact ⟨by rw [may_no' HM.out HZ.out]; rfl, by rw [HG.out]; exact B1.out⟩
  by_cases k11 : kind = 11
  · subst k11
    as_aux_lemma =>
    have HM : Hid (StmM.may ⟨11, ⟨ik, vec, note⟩, key, till, n, q, fl, sc⟩ = true ↔ _) := Lib.hid (StmM.may_code (x := ⟨11, ⟨ik, vec, note⟩, key, till, n, q, fl, sc⟩) (y := ⟨11, ⟨0, [], []⟩, 0, 0, n, [], fl, sc⟩) (ok := True) (by simp) (by simp [StmM.bare, StmM.nil, StmM.no]) (fun h => by have e := congrArg (fun z : Rq => z.it.note) ((StmM.same_iff _ _).1 h); simp [StmM.bare, StmM.nil, StmM.no] at e; subst e; simp [StmM.itOk]))
    have HOK : Hid True := Lib.hid trivial
    clear d0 d1 d2 d3 d4 d5 d6 d7 d8 d9 e0 e1 e2 e3 e4 e5 e6 e7 e8 e9
    have d0 := HU.out.1.c10.1
    go_upto_region 24 with fail
    refine wp_named fun a0 ha0 => ?_
    have z1 : a0.tmps.getD 1 undef = (.pointer (some ⟨g, 0, none⟩)) := by rw [ha0.out]; rfl
    have z3 : a0.tmps.getD 3 undef = (.pointer (some ⟨g + 1, 0, none⟩)) := by rw [ha0.out]; rfl
    have hsz0 : a0.tmps.size = 119 := by rw [ha0.out]; rfl
    refine wp_region_invB _ (by kernel_rfl) (fun L a wv => PIF a0 [72, 73, 74, 75, 76, 77, 78, 79, 80] (ma11P g ik note A2 c2 key till n q fl sc QA qc FA fc) L a ∧ (Below g w wv ∧ Blk wv g 42 #[.int .i64 11, .int .u64 (ik : Int), .slice A vec.length c, .slice A2 note.length c2, .int .u64 (key : Int), .int .u64 (till : Int), .int .i64 n, .slice QA q.length qc, .slice FA fl.length fc, .int .i64 sc]) ∧ Blk wv (g + 1) 42 (ma11Y ik note A2 c2 key till n q fl sc QA qc FA fc (L 7) (L 9) (L 11))) (by kernel_rfl) ?_ ?_ ?_
    · exact ⟨PIF.start _ _ _, ⟨B0.out.trans ⟨rfl, rfl, rfl, Nat.le_refl _, fun _ _ => rfl⟩, HU.out.1⟩, HU.out.2⟩
    rotate_left
    · as_aux_lemma =>
      refine ⟨?_, ?_, ?_, ?_, ?_, ?_, ?_, ?_, ?_, ?_, ?_, ?_, trivial⟩
      · intro L a w1 hI hi hd
        obtain ⟨hp, hw⟩ := hI
        have t1 := hp.at_ 1 _ rfl z1
        have t1' := t1
        rw [Array.getD_eq_getD_getElem?] at t1'
        exact rstep_valW (wanted_none rfl _) (.pointer (some ⟨g, 6, none⟩)) w1 (by go_simp) ⟨(hp.put 0 72 (.pointer (some ⟨g, 6, none⟩)) (by simp [ma11P]) (by simp [ma11P]) rfl (by rw [hsz0]; exact (by decide : 72 < 119))), ⟨hw.1, by rw [upd_ne L (show (7 : Nat) ≠ 0 by decide), upd_ne L (show (9 : Nat) ≠ 0 by decide), upd_ne L (show (11 : Nat) ≠ 0 by decide)]; exact hw.2⟩⟩
      · intro L a w1 hI hi hd
        obtain ⟨hp, hw⟩ := hI
        simp [Region.binds] at hd
        have e0 : a.tmps.getD 72 undef = (.pointer (some ⟨g, 6, none⟩)) := hp.pu (0, 72, (.pointer (some ⟨g, 6, none⟩))) (by simp [ma11P]) (by simp [hd])
        have f0 : a.tmps[72]?.getD undef = (.pointer (some ⟨g, 6, none⟩)) := by rw [← Array.getD_eq_getD_getElem?]; exact e0
        obtain ⟨d0, d1, d2, d3, d4, d5, d6, d7, d8, d9⟩ := hw.1.2.c10
        exact rstep_valW (wanted_none rfl _) (.int .i64 n) w1 (by go_simp) ⟨(hp.put 1 73 (.int .i64 n) (by simp [ma11P]) (by simp [ma11P]) rfl (by rw [hsz0]; exact (by decide : 73 < 119))), ⟨hw.1, by rw [upd_ne L (show (7 : Nat) ≠ 1 by decide), upd_ne L (show (9 : Nat) ≠ 1 by decide), upd_ne L (show (11 : Nat) ≠ 1 by decide)]; exact hw.2⟩⟩
      · intro L a w1 hI hi hd
        obtain ⟨hp, hw⟩ := hI
        have t1 := hp.at_ 1 _ rfl z1
        have t1' := t1
        rw [Array.getD_eq_getD_getElem?] at t1'
        exact rstep_valW (wanted_none rfl _) (.pointer (some ⟨g, 8, none⟩)) w1 (by go_simp) ⟨(hp.put 2 74 (.pointer (some ⟨g, 8, none⟩)) (by simp [ma11P]) (by simp [ma11P]) rfl (by rw [hsz0]; exact (by decide : 74 < 119))), ⟨hw.1, by rw [upd_ne L (show (7 : Nat) ≠ 2 by decide), upd_ne L (show (9 : Nat) ≠ 2 by decide), upd_ne L (show (11 : Nat) ≠ 2 by decide)]; exact hw.2⟩⟩
      · intro L a w1 hI hi hd
        obtain ⟨hp, hw⟩ := hI
        simp [Region.binds] at hd
        have e2 : a.tmps.getD 74 undef = (.pointer (some ⟨g, 8, none⟩)) := hp.pu (2, 74, (.pointer (some ⟨g, 8, none⟩))) (by simp [ma11P]) (by simp [hd])
        have f2 : a.tmps[74]?.getD undef = (.pointer (some ⟨g, 8, none⟩)) := by rw [← Array.getD_eq_getD_getElem?]; exact e2
        obtain ⟨d0, d1, d2, d3, d4, d5, d6, d7, d8, d9⟩ := hw.1.2.c10
        exact rstep_valW (wanted_none rfl _) (.slice FA fl.length fc) w1 (by go_simp) ⟨(hp.put 3 75 (.slice FA fl.length fc) (by simp [ma11P]) (by simp [ma11P]) rfl (by rw [hsz0]; exact (by decide : 75 < 119))), ⟨hw.1, by rw [upd_ne L (show (7 : Nat) ≠ 3 by decide), upd_ne L (show (9 : Nat) ≠ 3 by decide), upd_ne L (show (11 : Nat) ≠ 3 by decide)]; exact hw.2⟩⟩
      · intro L a w1 hI hi hd
        obtain ⟨hp, hw⟩ := hI
        have t1 := hp.at_ 1 _ rfl z1
        have t1' := t1
        rw [Array.getD_eq_getD_getElem?] at t1'
        exact rstep_valW (wanted_none rfl _) (.pointer (some ⟨g, 9, none⟩)) w1 (by go_simp) ⟨(hp.put 4 76 (.pointer (some ⟨g, 9, none⟩)) (by simp [ma11P]) (by simp [ma11P]) rfl (by rw [hsz0]; exact (by decide : 76 < 119))), ⟨hw.1, by rw [upd_ne L (show (7 : Nat) ≠ 4 by decide), upd_ne L (show (9 : Nat) ≠ 4 by decide), upd_ne L (show (11 : Nat) ≠ 4 by decide)]; exact hw.2⟩⟩
      · intro L a w1 hI hi hd
        obtain ⟨hp, hw⟩ := hI
        simp [Region.binds] at hd
        have e4 : a.tmps.getD 76 undef = (.pointer (some ⟨g, 9, none⟩)) := hp.pu (4, 76, (.pointer (some ⟨g, 9, none⟩))) (by simp [ma11P]) (by simp [hd])
        have f4 : a.tmps[76]?.getD undef = (.pointer (some ⟨g, 9, none⟩)) := by rw [← Array.getD_eq_getD_getElem?]; exact e4
        obtain ⟨d0, d1, d2, d3, d4, d5, d6, d7, d8, d9⟩ := hw.1.2.c10
        exact rstep_valW (wanted_none rfl _) (.int .i64 sc) w1 (by go_simp) ⟨(hp.put 5 77 (.int .i64 sc) (by simp [ma11P]) (by simp [ma11P]) rfl (by rw [hsz0]; exact (by decide : 77 < 119))), ⟨hw.1, by rw [upd_ne L (show (7 : Nat) ≠ 5 by decide), upd_ne L (show (9 : Nat) ≠ 5 by decide), upd_ne L (show (11 : Nat) ≠ 5 by decide)]; exact hw.2⟩⟩
      · intro L a w1 hI hi hd
        obtain ⟨hp, hw⟩ := hI
        have t3 := hp.at_ 3 _ rfl z3
        have t3' := t3
        rw [Array.getD_eq_getD_getElem?] at t3'
        exact rstep_valW (wanted_none rfl _) (.pointer (some ⟨g + 1, 6, none⟩)) w1 (by go_simp) ⟨(hp.put 6 78 (.pointer (some ⟨g + 1, 6, none⟩)) (by simp [ma11P]) (by simp [ma11P]) rfl (by rw [hsz0]; exact (by decide : 78 < 119))), ⟨hw.1, by rw [upd_ne L (show (7 : Nat) ≠ 6 by decide), upd_ne L (show (9 : Nat) ≠ 6 by decide), upd_ne L (show (11 : Nat) ≠ 6 by decide)]; exact hw.2⟩⟩
      · intro L a w1 hI hi hd
        obtain ⟨hp, hw⟩ := hI
        simp [Region.binds] at hd
        have e1 : a.tmps.getD 73 undef = (.int .i64 n) := hp.pu (1, 73, (.int .i64 n)) (by simp [ma11P]) (by simp [hd])
        have f1 : a.tmps[73]?.getD undef = (.int .i64 n) := by rw [← Array.getD_eq_getD_getElem?]; exact e1
        have e6 : a.tmps.getD 78 undef = (.pointer (some ⟨g + 1, 6, none⟩)) := hp.pu (6, 78, (.pointer (some ⟨g + 1, 6, none⟩))) (by simp [ma11P]) (by simp [hd])
        have f6 : a.tmps[78]?.getD undef = (.pointer (some ⟨g + 1, 6, none⟩)) := by rw [← Array.getD_eq_getD_getElem?]; exact e6
        have fz := hw.2.frozen 6
        have cz := hw.2.cell 6
        simp only [ma11Y, List.getElem?_toArray, List.getElem?_cons_zero, List.getElem?_cons_succ] at cz
        have hset := hw.2.set_ 6 (.int .i64 n)
        exact rstep_skip rfl (w1.setCell ⟨g + 1, 6, none⟩ (.int .i64 n)) (by go_simp) ⟨(hp.skip 7 undef (by simp [ma11P])), ⟨below_set hw.1.1 (by have := hw.2.lt; omega) (by omega) 6 _, hw.1.2.far (p := ⟨g + 1, 6, none⟩) (by simp) _⟩, by rw [upd_eq, upd_ne L (show (9 : Nat) ≠ 7 by decide), upd_ne L (show (11 : Nat) ≠ 7 by decide)]; exact hset⟩
      · intro L a w1 hI hi hd
        obtain ⟨hp, hw⟩ := hI
        have t3 := hp.at_ 3 _ rfl z3
        have t3' := t3
        rw [Array.getD_eq_getD_getElem?] at t3'
        exact rstep_valW (wanted_none rfl _) (.pointer (some ⟨g + 1, 8, none⟩)) w1 (by go_simp) ⟨(hp.put 8 79 (.pointer (some ⟨g + 1, 8, none⟩)) (by simp [ma11P]) (by simp [ma11P]) rfl (by rw [hsz0]; exact (by decide : 79 < 119))), ⟨hw.1, by rw [upd_ne L (show (7 : Nat) ≠ 8 by decide), upd_ne L (show (9 : Nat) ≠ 8 by decide), upd_ne L (show (11 : Nat) ≠ 8 by decide)]; exact hw.2⟩⟩
      · intro L a w1 hI hi hd
        obtain ⟨hp, hw⟩ := hI
        simp [Region.binds] at hd
        have e3 : a.tmps.getD 75 undef = (.slice FA fl.length fc) := hp.pu (3, 75, (.slice FA fl.length fc)) (by simp [ma11P]) (by simp [hd])
        have f3 : a.tmps[75]?.getD undef = (.slice FA fl.length fc) := by rw [← Array.getD_eq_getD_getElem?]; exact e3
        have e8 : a.tmps.getD 79 undef = (.pointer (some ⟨g + 1, 8, none⟩)) := hp.pu (8, 79, (.pointer (some ⟨g + 1, 8, none⟩))) (by simp [ma11P]) (by simp [hd])
        have f8 : a.tmps[79]?.getD undef = (.pointer (some ⟨g + 1, 8, none⟩)) := by rw [← Array.getD_eq_getD_getElem?]; exact e8
        have fz := hw.2.frozen 8
        have cz := hw.2.cell 8
        simp only [ma11Y, List.getElem?_toArray, List.getElem?_cons_zero, List.getElem?_cons_succ] at cz
        have hset := hw.2.set_ 8 (.slice FA fl.length fc)
        exact rstep_skip rfl (w1.setCell ⟨g + 1, 8, none⟩ (.slice FA fl.length fc)) (by go_simp) ⟨(hp.skip 9 undef (by simp [ma11P])), ⟨below_set hw.1.1 (by have := hw.2.lt; omega) (by omega) 8 _, hw.1.2.far (p := ⟨g + 1, 8, none⟩) (by simp) _⟩, by rw [upd_eq, upd_ne L (show (7 : Nat) ≠ 9 by decide), upd_ne L (show (11 : Nat) ≠ 9 by decide)]; exact hset⟩
      · intro L a w1 hI hi hd
        obtain ⟨hp, hw⟩ := hI
        have t3 := hp.at_ 3 _ rfl z3
        have t3' := t3
        rw [Array.getD_eq_getD_getElem?] at t3'
        exact rstep_valW (wanted_none rfl _) (.pointer (some ⟨g + 1, 9, none⟩)) w1 (by go_simp) ⟨(hp.put 10 80 (.pointer (some ⟨g + 1, 9, none⟩)) (by simp [ma11P]) (by simp [ma11P]) rfl (by rw [hsz0]; exact (by decide : 80 < 119))), ⟨hw.1, by rw [upd_ne L (show (7 : Nat) ≠ 10 by decide), upd_ne L (show (9 : Nat) ≠ 10 by decide), upd_ne L (show (11 : Nat) ≠ 10 by decide)]; exact hw.2⟩⟩
      · intro L a w1 hI hi hd
        obtain ⟨hp, hw⟩ := hI
        simp [Region.binds] at hd
        have e5 : a.tmps.getD 77 undef = (.int .i64 sc) := hp.pu (5, 77, (.int .i64 sc)) (by simp [ma11P]) (by simp [hd])
        have f5 : a.tmps[77]?.getD undef = (.int .i64 sc) := by rw [← Array.getD_eq_getD_getElem?]; exact e5
        have e10 : a.tmps.getD 80 undef = (.pointer (some ⟨g + 1, 9, none⟩)) := hp.pu (10, 80, (.pointer (some ⟨g + 1, 9, none⟩))) (by simp [ma11P]) (by simp [hd])
        have f10 : a.tmps[80]?.getD undef = (.pointer (some ⟨g + 1, 9, none⟩)) := by rw [← Array.getD_eq_getD_getElem?]; exact e10
        have fz := hw.2.frozen 9
        have cz := hw.2.cell 9
        simp only [ma11Y, List.getElem?_toArray, List.getElem?_cons_zero, List.getElem?_cons_succ] at cz
        have hset := hw.2.set_ 9 (.int .i64 sc)
        exact rstep_skip rfl (w1.setCell ⟨g + 1, 9, none⟩ (.int .i64 sc)) (by go_simp) ⟨(hp.skip 11 undef (by simp [ma11P])), ⟨below_set hw.1.1 (by have := hw.2.lt; omega) (by omega) 9 _, hw.1.2.far (p := ⟨g + 1, 9, none⟩) (by simp) _⟩, by rw [upd_eq, upd_ne L (show (7 : Nat) ≠ 11 by decide), upd_ne L (show (9 : Nat) ≠ 11 by decide)]; exact hset⟩
    rintro L a W0 ⟨hp, hw⟩ hL
    have hyl := hw.2
    rw [hL 7 (by simp), hL 9 (by simp), hL 11 (by simp)] at hyl
    have B1 := Lib.hid hw.1.1
    have HU1 : Hid (Blk W0 g 42 #[.int .i64 11, .int .u64 (ik : Int), .slice A vec.length c, .slice A2 note.length c2, .int .u64 (key : Int), .int .u64 (till : Int), .int .i64 n, .slice QA q.length qc, .slice FA fl.length fc, .int .i64 sc] ∧ Blk W0 (g + 1) 42 #[.int .i64 11, .int .u64 0, .slice none 0 0, .slice none 0 0, .int .u64 0, .int .u64 0, .int .i64 n, .slice none 0 0, .slice FA fl.length fc, .int .i64 sc]) := Lib.hid (And.intro hw.1.2 hyl)
    clear hw hyl
    rw [hp.eq]
    refine of_assigns (P := Try.prog) _ _ _ _ ?_
    rw [ha0.out]
    simp only [asgs, List.map]
    generalize a.tmps.getD 72 undef = u72
    generalize a.tmps.getD 73 undef = u73
    generalize a.tmps.getD 74 undef = u74
    generalize a.tmps.getD 75 undef = u75
    generalize a.tmps.getD 76 undef = u76
    generalize a.tmps.getD 77 undef = u77
    generalize a.tmps.getD 78 undef = u78
    generalize a.tmps.getD 79 undef = u79
    generalize a.tmps.getD 80 undef = u80
    clear hp hL hsz0  z1 z3
    clear ha0
    have RX : Hid (Rqv.At ⟨⟨11, ⟨ik, vec, note⟩, key, till, n, q, fl, sc⟩, A, c, A2, c2, QA, qc, FA, fc⟩ W0) := Lib.hid (HSA.out _ B1.out)
    have RY : Hid (Rqv.At ⟨⟨11, ⟨0, [], []⟩, 0, 0, n, [], fl, sc⟩, none, 0, none, 0, none, 0, FA, fc⟩ W0) := Lib.hid ⟨.inl rfl, .inl rfl, .inl rfl, RX.out.r4, ⟨by simp, StmM.no_ok, by simp, by simp, RX.out.ok.hn, (fun v hv => by cases hv), RX.out.ok.hfl, RX.out.ok.hsc⟩, Nat.zero_le _, Nat.zero_le _, Nat.zero_le _, RX.out.l4, Nat.zero_le _, Nat.zero_le _, Nat.zero_le _, RX.out.m4⟩
    have u1 := HU1.out.1
    have u2 := HU1.out.2
    go_wp2_with (first | (refine wpl_load_row rfl _ (.tmp 1) rfl (g) (by go_simp) _ #[.int .i64 11, .int .u64 (ik : Int), .slice A vec.length c, .slice A2 note.length c2, .int .u64 (key : Int), .int .u64 (till : Int), .int .i64 n, .slice QA q.length qc, .slice FA fl.length fc, .int .i64 sc] (0, 0) _ u1 Try.underlying42 rfl (by kernel_rfl) ?_) | (refine wpl_load_row rfl _ (.tmp 3) rfl (g + 1) (by go_simp) _ #[.int .i64 11, .int .u64 0, .slice none 0 0, .slice none 0 0, .int .u64 0, .int .u64 0, .int .i64 n, .slice none 0 0, .slice FA fl.length fc, .int .i64 sc] (0, 0) _ u2 Try.underlying42 rfl (by kernel_rfl) ?_))
    refine (stmsame_any ⟨⟨11, ⟨ik, vec, note⟩, key, till, n, q, fl, sc⟩, A, c, A2, c2, QA, qc, FA, fc⟩ ⟨⟨11, ⟨0, [], []⟩, 0, 0, n, [], fl, sc⟩, none, 0, none, 0, none, 0, FA, fc⟩ W0 RX.out RY.out).mono ?_
    rintro e V9 ⟨rfl, hb⟩
    have B9 := Lib.hid (below_step B1.out hb (Nat.le_of_eq HG.out.symm))
    obtain ⟨d0, d1, d2, d3, d4, d5, d6, d7, d8, d9⟩ := (u1.below hb u1.lt).c10
    clear hb u1 u2 d0 d1 d2 d3 d4 d5
    generalize hbq : StmM.same _ _ = bq
    have HS := Lib.hid hbq
    clear hbq
    cases bq with
    | false =>
      go_wp2
      go_ret
      exact ⟨by rw [may_no HM.out (fun q => by have h := HS.out; rw [h] at q; cases q)]; rfl, by rw [HG.out]; exact B9.out⟩
    | true =>
      go_wp2
      all_goals (go_ret; exact ⟨may_bool HM.out HOK.out HS.out (by constructor <;> intro q <;> first | omega | (simp at q ⊢; omega) | (simp at q; done) | (simp; omega)), by rw [HG.out]; exact B9.out⟩)
  have h1 : (kind == 1) = false := beq_eq_false_iff_ne.2 k1
  have h2 : (kind == 2) = false := beq_eq_false_iff_ne.2 k2
  have h3 : (kind == 3) = false := beq_eq_false_iff_ne.2 k3
  have h4 : (kind == 4) = false := beq_eq_false_iff_ne.2 k4
  have h5 : (kind == 5) = false := beq_eq_false_iff_ne.2 k5
  have h6 : (kind == 6) = false := beq_eq_false_iff_ne.2 k6
  have h7 : (kind == 7) = false := beq_eq_false_iff_ne.2 k7
  have h8 : (kind == 8) = false := beq_eq_false_iff_ne.2 k8
  have h9 : (kind == 9) = false := beq_eq_false_iff_ne.2 k9
  have h10 : (kind == 10) = false := beq_eq_false_iff_ne.2 k10
  have h11 : (kind == 11) = false := beq_eq_false_iff_ne.2 k11
  have HN : Hid (StmM.may ⟨kind, ⟨ik, vec, note⟩, key, till, n, q, fl, sc⟩ = false) := Lib.hid (by
    cases h : StmM.may ⟨kind, ⟨ik, vec, note⟩, key, till, n, q, fl, sc⟩ with
    | false => rfl
    | true =>
      exfalso
      obtain ⟨q1, q2, _⟩ := (StmM.may_iff _).1 h
      simp only at q1 q2
      omega)
  clear k1 k2 k3 k4 k5 k6 k7 k8 k9 k10 k11
  go_wp2
  go_ret
  exact ⟨by rw [HN.out]; rfl, by rw [HG.out]; exact B0.out⟩
end Go.Proofs.Ytaadfalklddhcaa
