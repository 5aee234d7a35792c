/-
  StmtSame: for every input the law returns true, and each argument reads afterwards as it read before.
  Conditions: those of the given statement (the form's own reach).
-/
import Derived.Test.YtaadfalklddhcaaStmM
import Derived.Test.YtaadfalklddhcaaItemW4
import Derived.Test.YtaadfalklddhcaaItemF
import Derived.Laws.StructEq
import Derived.BigQuiet
import Derived.BigRegion
import Derived.Lib.QuietBelow
import Derived.Deep.Cut
import Derived.Deep.CutBlock
import Derived.Deep.RegionHeld3
import Derived.Deep.RegionHeldLaw
import Derived.Lib.BufferOwn
import Derived.Test.YtaadfalklddhcaaReg5
import Derived.Test.YtaadfalklddhcaaStmW8
import Derived.Test.YtaadfalklddhcaaStmW11
import Derived.Test.YtaadfalklddhcaaFrame
/-! part -/
namespace Go.Proofs.Ytaadfalklddhcaa
open Go.RowKit Go.Sort Go.Lib
set_option linter.unusedVariables false
set_option linter.unusedSimpArgs false
instance : DecidableEq Itm := fun a b => decidable_of_iff _ (ItemM.same_iff a b)
theorem itm_same (a b : Itm) : ItemM.same a b = decide (a = b) := by
  by_cases h : a = b
  · rw [decide_eq_true h]; exact (ItemM.same_iff a b).2 h
  · rw [decide_eq_false h]
    cases h2 : ItemM.same a b with
    | false => rfl
    | true => exact absurd ((ItemM.same_iff a b).1 h2) h
/-- A reply. -/
structure Rp where
  kind : Int
  mark : Int
  errno : Int
  place : Int
  it : Itm
  its : List Itm
  hits : List (Nat × Int)
/-- Its numbers are in range. -/
structure Rp.Ok (x : Rp) : Prop where
  hkind : -9223372036854775808 ≤ x.kind ∧ x.kind < 9223372036854775808
  hmark : -9223372036854775808 ≤ x.mark ∧ x.mark < 9223372036854775808
  herr : -9223372036854775808 ≤ x.errno ∧ x.errno < 9223372036854775808
  hplace : -9223372036854775808 ≤ x.place ∧ x.place < 9223372036854775808
  hit : x.it.Ok
  hits_ : ∀ i ∈ x.its, i.Ok
  hh : ∀ h ∈ x.hits, h.1 < 18446744073709551616 ∧ -9223372036854775808 ≤ h.2 ∧ h.2 < 9223372036854775808
namespace RepM
def same (a b : Rp) : Bool := decide (a.kind = b.kind) && (decide (a.mark = b.mark) && (decide (a.errno = b.errno) && (decide (a.place = b.place) && (ItemM.same a.it b.it && (decide (a.its = b.its) && decide (a.hits = b.hits))))))
theorem same_iff (a b : Rp) : same a b = true ↔ a = b := by
  cases a; cases b
  simp only [same, Bool.and_eq_true, decide_eq_true_eq, ItemM.same_iff, Rp.mk.injEq]
theorem same_refl (a : Rp) : same a a = true := (same_iff a a).2 rfl
theorem same_comm (a b : Rp) : same a b = same b a := by
  cases h : same b a with
  | true => rw [(same_iff b a).1 h]; exact same_refl _
  | false =>
    cases h2 : same a b with
    | false => rfl
    | true => rw [(same_iff a b).1 h2, same_refl] at h; cases h
end RepM
/-! ### Lists in memory -/
def hitC (h : Nat × Int) : List Value := [.int .u64 (h.1 : Int), .int .i64 h.2]
theorem itvs_get : ∀ (l : List Itv) (k : Nat) (s : Itv), l[k]? = some s → (l.flatMap Itv.cells)[k * 3]? = some (.int .u64 (s.x.key : Int)) ∧ (l.flatMap Itv.cells)[k * 3 + 1]? = some (.slice s.A s.x.vec.length s.c) ∧ (l.flatMap Itv.cells)[k * 3 + 2]? = some (.slice s.A2 s.x.note.length s.c2)
  | a :: l, 0, c, h => by
    simp at h; subst h; exact ⟨rfl, rfl, rfl⟩
  | a :: l, k + 1, c, h => by
    have ih := itvs_get l k c (by simpa using h)
    rw [List.flatMap_cons, show (k + 1) * 3 = k * 3 + 3 by omega]
    refine ⟨?_, ?_, ?_⟩
    · rw [List.getElem?_append_right (by simp [Itv.cells])]; simpa [Itv.cells] using ih.1
    · rw [List.getElem?_append_right (by simp [Itv.cells])]; simpa [Itv.cells, show k * 3 + 3 + 1 - 3 = k * 3 + 1 by omega] using ih.2.1
    · rw [List.getElem?_append_right (by simp [Itv.cells])]; simpa [Itv.cells, show k * 3 + 3 + 2 - 3 = k * 3 + 2 by omega] using ih.2.2
  | [], _, _, h => by simp at h
theorem hits_get : ∀ (l : List (Nat × Int)) (k : Nat) (c : Nat × Int), l[k]? = some c → (l.flatMap hitC)[k * 2]? = some (.int .u64 (c.1 : Int)) ∧ (l.flatMap hitC)[k * 2 + 1]? = some (.int .i64 c.2)
  | a :: l, 0, c, h => by
    simp at h; subst h; exact ⟨rfl, rfl⟩
  | a :: l, k + 1, c, h => by
    have ih := hits_get l k c (by simpa using h)
    rw [List.flatMap_cons, show (k + 1) * 2 = k * 2 + 2 by omega]
    refine ⟨?_, ?_⟩
    · rw [List.getElem?_append_right (by simp [hitC])]; simpa [hitC] using ih.1
    · rw [List.getElem?_append_right (by simp [hitC])]; simpa [hitC, show k * 2 + 2 + 1 - 2 = k * 2 + 1 by omega] using ih.2
  | [], _, _, h => by simp at h
theorem row_itv {w : World} {A : Option Addr} {l : List Itv} (h : Row w A (l.flatMap Itv.cells)) {k : Nat} {s : Itv} (hs : l[k]? = some s) :
    ∃ b o, A = some ⟨b, o, none⟩ ∧ w.cell? ⟨b, o + k * 3, none⟩ = some (.int .u64 (s.x.key : Int)) ∧ w.cell? ⟨b, o + k * 3 + 1, none⟩ = some (.slice s.A s.x.vec.length s.c) ∧ w.cell? ⟨b, o + k * 3 + 2, none⟩ = some (.slice s.A2 s.x.note.length s.c2) := by
  obtain ⟨g1, g2, g3⟩ := itvs_get l k s hs
  rcases h with h | ⟨b, o, e, hc⟩
  · rw [h] at g1; simp at g1
  · exact ⟨b, o, e, hc _ _ g1, by rw [Nat.add_assoc]; exact hc _ _ g2, by rw [Nat.add_assoc]; exact hc _ _ g3⟩
theorem row_hit {w : World} {A : Option Addr} {l : List (Nat × Int)} (h : Row w A (l.flatMap hitC)) {k : Nat} {c : Nat × Int} (hs : l[k]? = some c) :
    ∃ b o, A = some ⟨b, o, none⟩ ∧ w.cell? ⟨b, o + k * 2, none⟩ = some (.int .u64 (c.1 : Int)) ∧ w.cell? ⟨b, o + k * 2 + 1, none⟩ = some (.int .i64 c.2) := by
  obtain ⟨g1, g2⟩ := hits_get l k c hs
  rcases h with h | ⟨b, o, e, hc⟩
  · rw [h] at g1; simp at g1
  · exact ⟨b, o, e, hc _ _ g1, by rw [Nat.add_assoc]; exact hc _ _ g2⟩
theorem Itv.At.below {s : Itv} {w w' : World} (h : s.At w) (hb : Below w.heap.size w w') : s.At w' :=
  ⟨h.r1.below hb, h.r2.below hb, h.ok, h.l1, h.l2, h.m1, h.m2⟩
theorem hit_eq (a b d e : Int) (w : World) : (Op.equalIn 10000 67 (.agg #[.int .u64 a, .int .i64 b]) (.agg #[.int .u64 d, .int .i64 e])).run Try.prog w = .ok (a == d && b == e) w := by
  have u3 := Try.underlying27
  have a3 := Try.isAgg27
  have z3 := Try.sizeOf27
  have u4 := Try.underlying2
  have a4 := Try.isAgg2
  have z4 := Try.sizeOf2
  have hS : Try.prog.underlying 67 = some (.struct (Try.prog.fieldsOf 67)) := by kernel_rfl
  have hp : Try.prog.stoodInHeld 67 = false := by kernel_rfl
  rw [show (10000 : Nat) = 9999 + 1 from rfl, run_equalIn_agg w 9999 67 _ _ hS hp]
  simp only [Program.fieldsOf, Try.underlying67]
  go_simp
  by_cases h1 : a = d <;> by_cases h2 : b = e <;> simp [h1, h2]
@[go_sem high] theorem hit_same (a b : Nat × Int) (w : World) : (Op.equalIn 10000 67 (.agg #[.int .u64 (a.1 : Int), .int .i64 a.2]) (.agg #[.int .u64 (b.1 : Int), .int .i64 b.2])).run Try.prog w = .ok (decide (a = b)) w := by
  rw [hit_eq]
  obtain ⟨a1, a2⟩ := a
  obtain ⟨b1, b2⟩ := b
  congr 1
  by_cases h1 : a1 = b1 <;> by_cases h2 : a2 = b2 <;> simp [h1, h2, Int.ofNat_inj]
theorem list_eq {α : Type} {l m : List α} {n : Nat} (h1 : l.length = n) (h2 : m.length = n) (h : ∀ j, j < n → l[j]? = m[j]?) : l = m := by
  refine List.ext_getElem? fun j => ?_
  by_cases hj : j < n
  · exact h j hj
  · rw [List.getElem?_eq_none (by omega), List.getElem?_eq_none (by omega)]
theorem BoolP.yes {p : Prop} [Decidable p] {w w' : World} (h : p) (hb : Below w.heap.size w w') : BoolP (decide p) w (.returned (.bool true)) w' := ⟨by rw [decide_eq_true h], hb⟩
theorem BoolP.no {p : Prop} [Decidable p] {w w' : World} (h : ¬ p) (hb : Below w.heap.size w w') : BoolP (decide p) w (.returned (.bool false)) w' := ⟨by rw [decide_eq_false h], hb⟩
set_option maxRecDepth 100000 in
theorem equalH_any (A B : Option Addr) (n n2 c c2 : Nat) (l m : List (Nat × Int)) (w : World) (hr : Row w A (l.flatMap hitC)) (hl : l.length = n) (hr2 : Row w B (m.flatMap hitC)) (hl2 : m.length = n2) (hm : n ≤ 9223372036854775807) :
    Calls Try.prog 75 #[.slice A n c, .slice B n2 c2] w (BoolP (decide (l = m)) w) := by
  have HL := Lib.hid hl
  have HL2 := Lib.hid hl2
  clear hl hl2
  by_cases hd : n = n2
  · subst hd
    go_enter Try.func75, Try.ntmps75
    go_wp2
    go_loopw [5, 13] (fun _ i wr => ∃ k : Nat, i = .int .i64 (k : Int) ∧ k ≤ n ∧ Below w.heap.size w wr ∧ Hid (∀ j, j < k → l[j]? = m[j]?)) (fun _ i _ => n - (RowKit.intOf i).toNat)
    case atStart => exact ⟨0, rfl, Nat.zero_le _, Below.refl _ _, Lib.hid fun j hj => by omega⟩
    case round =>
      obtain ⟨k, rfl, hk, hbel, HA⟩ := hrel
      by_cases hlt : k < n
      · obtain ⟨s, hs⟩ : ∃ s, l[k]? = some s := ⟨_, List.getElem?_eq_getElem (by rw [HL.out]; exact hlt)⟩
        obtain ⟨t, ht⟩ : ∃ t, m[k]? = some t := ⟨_, List.getElem?_eq_getElem (by rw [HL2.out]; exact hlt)⟩
        obtain ⟨b, o, rfl, e1, e2⟩ := row_hit (hr.below hbel) hs
        obtain ⟨b2, o2, rfl, f1, f2⟩ := row_hit (hr2.below hbel) ht
        have hdn : ∀ n, Below wr.heap.size wr (wr.drewN n) := fun n => ⟨rfl, rfl, rfl, Nat.le_refl _, fun _ _ => rfl⟩
        have HDN := Lib.hid hdn
        clear hdn
        have HS := Lib.hid hs
        have HT := Lib.hid ht
        clear hs ht
        go_upto_region 6 with fail
        by_cases hst : s = t
        · go_quiet (fail)
          have hbel2 := below_step hbel (HDN.out nq) (Nat.le_refl _)
          go_wp2
          go_roundw
          case rel =>
            refine ⟨k + 1, by go_num, by omega, hbel2, Lib.hid fun j hj => ?_⟩
            by_cases e : j = k
            · subst e; rw [HS.out, HT.out, hst]
            · exact HA.out j (by omega)
          case measure => simp [RowKit.intOf]; omega
        · go_quiet (fail)
          have hbel2 := below_step hbel (HDN.out nq) (Nat.le_refl _)
          go_wp2
          go_ret
          exact BoolP.no (fun h => hst (by have h1 := HS.out; rw [h, HT.out] at h1; injection h1 with h1; exact h1.symm)) hbel2
      · obtain rfl : k = n := by omega
        go_wp2
        go_ret
        exact BoolP.yes (list_eq HL.out HL2.out HA.out) hbel
  · go_enter Try.func75, Try.ntmps75
    go_wp2
    go_ret
    exact BoolP.no (fun h => hd (by rw [← HL.out, ← HL2.out, h])) (Below.refl _ _)
set_option maxRecDepth 100000 in
theorem refsameH_any (A B : Option Addr) (n n2 c c2 : Nat) (l m : List (Nat × Int)) (w : World) (hr : Row w A (l.flatMap hitC)) (hl : l.length = n) (hr2 : Row w B (m.flatMap hitC)) (hl2 : m.length = n2) (hm : n ≤ 9223372036854775807) :
    Calls Try.prog 45 #[.slice A n c, .slice B n2 c2] w (BoolP (decide (l = m)) w) := by
  have HL := Lib.hid hl
  have HL2 := Lib.hid hl2
  clear hl hl2
  by_cases hd : n = n2
  · subst hd
    go_enter Try.func45, Try.ntmps45
    go_wp2
    go_loopw [5] (fun i wr => ∃ k : Nat, i = .int .i64 (k : Int) ∧ k ≤ n ∧ Below w.heap.size w wr ∧ Hid (∀ j, j < k → l[j]? = m[j]?)) (fun i _ => n - (RowKit.intOf i).toNat)
    case atStart => exact ⟨0, rfl, Nat.zero_le _, Below.refl _ _, Lib.hid fun j hj => by omega⟩
    case round =>
      obtain ⟨k, rfl, hk, hbel, HA⟩ := hrel
      by_cases hlt : k < n
      · obtain ⟨s, hs⟩ : ∃ s, l[k]? = some s := ⟨_, List.getElem?_eq_getElem (by rw [HL.out]; exact hlt)⟩
        obtain ⟨t, ht⟩ : ∃ t, m[k]? = some t := ⟨_, List.getElem?_eq_getElem (by rw [HL2.out]; exact hlt)⟩
        obtain ⟨b, o, rfl, e1, e2⟩ := row_hit (hr.below hbel) hs
        obtain ⟨b2, o2, rfl, f1, f2⟩ := row_hit (hr2.below hbel) ht
        have hdn : ∀ n, Below wr.heap.size wr (wr.drewN n) := fun n => ⟨rfl, rfl, rfl, Nat.le_refl _, fun _ _ => rfl⟩
        have HDN := Lib.hid hdn
        clear hdn
        have HS := Lib.hid hs
        have HT := Lib.hid ht
        clear hs ht
        go_upto_region 6 with fail
        by_cases hst : s = t
        · go_quiet (fail)
          have hbel2 := below_step hbel (HDN.out nq) (Nat.le_refl _)
          go_wp2
          go_roundw
          case rel =>
            refine ⟨k + 1, by go_num, by omega, hbel2, Lib.hid fun j hj => ?_⟩
            by_cases e : j = k
            · subst e; rw [HS.out, HT.out, hst]
            · exact HA.out j (by omega)
          case measure => simp [RowKit.intOf]; omega
        · go_quiet (fail)
          have hbel2 := below_step hbel (HDN.out nq) (Nat.le_refl _)
          go_wp2
          go_ret
          exact BoolP.no (fun h => hst (by have h1 := HS.out; rw [h, HT.out] at h1; injection h1 with h1; exact h1.symm)) hbel2
      · obtain rfl : k = n := by omega
        go_wp2
        go_ret
        exact BoolP.yes (list_eq HL.out HL2.out HA.out) hbel
  · go_enter Try.func45, Try.ntmps45
    go_wp2
    go_ret
    exact BoolP.no (fun h => hd (by rw [← HL.out, ← HL2.out, h])) (Below.refl _ _)
end Go.Proofs.Ytaadfalklddhcaa
/-! part -/
namespace Go.Proofs.Ytaadfalklddhcaa
open Go.RowKit Go.Sort Go.Lib
set_option linter.unusedVariables false
set_option linter.unusedSimpArgs false
def rsP (b o b2 o2 k n c c2 : Nat) (s t : Itv) (r : Bool) : List (Nat × Nat × Value) := [(0, 17, (.slice (some ⟨b, o, none⟩) n c)), (1, 18, (.int .i64 (k : Int))), (2, 19, (.pointer (some ⟨b, o + k * 3, none⟩))), (3, 20, (.agg #[.int .u64 (s.x.key : Int), .slice s.A s.x.vec.length s.c, .slice s.A2 s.x.note.length s.c2])), (4, 21, (.slice (some ⟨b2, o2, none⟩) n c2)), (5, 22, (.int .i64 (k : Int))), (6, 23, (.pointer (some ⟨b2, o2 + k * 3, none⟩))), (7, 24, (.agg #[.int .u64 (t.x.key : Int), .slice t.A t.x.vec.length t.c, .slice t.A2 t.x.note.length t.c2])), (8, 25, (.bool r)), (9, 26, (.bool (!r)))]
theorem map_ne {l m : List Itv} {k : Nat} {s t : Itv} (hs : l[k]? = some s) (ht : m[k]? = some t) (h : s.x ≠ t.x) : l.map (·.x) ≠ m.map (·.x) := by
  intro e
  have := congrArg (fun z => z[k]?) e
  simp [hs, ht] at this
  exact h this
theorem map_eq_ {l m : List Itv} {n : Nat} (h1 : l.length = n) (h2 : m.length = n) (h : ∀ j, j < n → (l.map (·.x))[j]? = (m.map (·.x))[j]?) : l.map (·.x) = m.map (·.x) :=
  list_eq (by rw [List.length_map]; exact h1) (by rw [List.length_map]; exact h2) h
set_option maxRecDepth 100000 in
set_option maxHeartbeats 4000000 in
theorem efun_any (A B : Option Addr) (n n2 c c2 : Nat) (l m : List Itv) (w : World) (hr : Row w A (l.flatMap Itv.cells)) (ha : ∀ s ∈ l, s.At w) (hl : l.length = n) (hr2 : Row w B (m.flatMap Itv.cells)) (hb : ∀ s ∈ m, s.At w) (hl2 : m.length = n2) (hm : n ≤ 9223372036854775807) :
    Calls Try.prog 74 #[.slice A n c, .slice B n2 c2, .func (.func 73) #[] #[]] w (BoolP (decide (l.map (·.x) = m.map (·.x))) w) := by
  have HL := Lib.hid hl
  have HL2 := Lib.hid hl2
  have HA := Lib.hid ha
  have HB := Lib.hid hb
  have HR := Lib.hid hr
  have HR2 := Lib.hid hr2
  clear hl hl2 ha hb hr hr2
  by_cases hd : n = n2
  · subst hd
    go_enter Try.func74, Try.ntmps74
    go_wp2
    go_loopw [17] (fun i wr => ∃ k : Nat, i = .int .i64 (k : Int) ∧ k ≤ n ∧ Below w.heap.size w wr ∧ Hid (∀ j, j < k → (l.map (·.x))[j]? = (m.map (·.x))[j]?)) (fun i _ => n - (RowKit.intOf i).toNat)
    case atStart => exact ⟨0, rfl, Nat.zero_le _, Below.refl _ _, Lib.hid fun j hj => by omega⟩
    case round =>
      obtain ⟨k, rfl, hk, hbel, HE⟩ := hrel
      by_cases hlt : k < n
      · obtain ⟨s, hs⟩ : ∃ s, l[k]? = some s := ⟨_, List.getElem?_eq_getElem (by rw [HL.out]; exact hlt)⟩
        obtain ⟨t, ht⟩ : ∃ t, m[k]? = some t := ⟨_, List.getElem?_eq_getElem (by rw [HL2.out]; exact hlt)⟩
        obtain ⟨b, o, rfl, e1, e2, e3⟩ := row_itv (HR.out.below hbel) hs
        obtain ⟨b2, o2, rfl, f1, f2, f3⟩ := row_itv (HR2.out.below hbel) ht
        have hb0 : Below wr.heap.size wr ((wr.alloc (.cells #[.int .u64 (s.x.key : Int), .slice s.A s.x.vec.length s.c, .slice s.A2 s.x.note.length s.c2] 30)).alloc (.cells #[.int .u64 (t.x.key : Int), .slice t.A t.x.vec.length t.c, .slice t.A2 t.x.note.length t.c2] 30)) := ((Below.refl _ _).alloc (Nat.le_refl _) _).alloc (by simp) _
        have sA := (HA.out s (List.mem_of_getElem? hs)).below hbel
        have tA := (HB.out t (List.mem_of_getElem? ht)).below hbel
        have HC := Lib.hid (itemsame_any s.x t.x s.A s.A2 t.A t.A2 s.c s.c2 t.c t.c2 _ (sA.r1.below hb0) (sA.r2.below hb0) (tA.r1.below hb0) (tA.r2.below hb0) (Nat.le_trans sA.l1 sA.m1) (Nat.le_trans tA.l1 tA.m1))
        have HX := Lib.hid (And.intro hs (And.intro ht (below_step hbel hb0 (Nat.le_refl _))))
        have hba : Below wr.heap.size wr (wr.alloc (.cells #[.int .u64 (s.x.key : Int), .slice s.A s.x.vec.length s.c, .slice s.A2 s.x.note.length s.c2] 30)) := (Below.refl _ _).alloc (Nat.le_refl _) _
        have g1 := (hba.cell (World.block_lt_of_cell? wr _ f1)).trans f1
        have g2 := (hba.cell (World.block_lt_of_cell? wr _ f2)).trans f2
        have g3 := (hba.cell (World.block_lt_of_cell? wr _ f3)).trans f3
        clear hs ht sA tA hbel hb0 f1 f2 f3 hba
        go_wp2_with fail
        refine HC.out.mono ?_
        rintro e w2 ⟨rfl, hb2⟩
        have HB2 := Lib.hid (below_step HX.out.2.2 hb2 (Nat.le_refl _))
        clear hb2 HC e1 e2 e3 g1 g2 g3
        rw [itm_same]
        by_cases hst : s.x = t.x
        · rw [decide_eq_true hst]
          go_wp2
          go_roundw
          case rel =>
            refine ⟨k + 1, by go_num, by omega, HB2.out, Lib.hid fun j hj => ?_⟩
            by_cases e : j = k
            · subst e; rw [List.getElem?_map, List.getElem?_map, HX.out.1, HX.out.2.1]; simp [hst]
            · exact HE.out j (by omega)
          case measure => simp [RowKit.intOf]; omega
        · rw [decide_eq_false hst]
          go_wp2
          go_ret
          exact BoolP.no (map_ne HX.out.1 HX.out.2.1 hst) HB2.out
      · obtain rfl : k = n := by omega
        go_wp2
        go_ret
        exact BoolP.yes (map_eq_ HL.out HL2.out HE.out) hbel
  · go_enter Try.func74, Try.ntmps74
    go_wp2
    go_ret
    exact BoolP.no (fun h => hd (by rw [← HL.out, ← HL2.out]; have := congrArg List.length h; simpa using this)) (Below.refl _ _)
set_option maxRecDepth 100000 in
set_option maxHeartbeats 4000000 in
theorem refsames_any (A B : Option Addr) (n n2 c c2 : Nat) (l m : List Itv) (w : World) (hr : Row w A (l.flatMap Itv.cells)) (ha : ∀ s ∈ l, s.At w) (hl : l.length = n) (hr2 : Row w B (m.flatMap Itv.cells)) (hb : ∀ s ∈ m, s.At w) (hl2 : m.length = n2) (hm : n ≤ 9223372036854775807) :
    Calls Try.prog 44 #[.slice A n c, .slice B n2 c2] w (BoolP (decide (l.map (·.x) = m.map (·.x))) w) := by
  have HL := Lib.hid hl
  have HL2 := Lib.hid hl2
  have HA := Lib.hid ha
  have HB := Lib.hid hb
  have HR := Lib.hid hr
  have HR2 := Lib.hid hr2
  clear hl hl2 ha hb hr hr2
  by_cases hd : n = n2
  · subst hd
    go_enter Try.func44, Try.ntmps44
    go_wp2
    go_loopw [5] (fun i wr => ∃ k : Nat, i = .int .i64 (k : Int) ∧ k ≤ n ∧ Below w.heap.size w wr ∧ Hid (∀ j, j < k → (l.map (·.x))[j]? = (m.map (·.x))[j]?)) (fun i _ => n - (RowKit.intOf i).toNat)
    case atStart => exact ⟨0, rfl, Nat.zero_le _, Below.refl _ _, Lib.hid fun j hj => by omega⟩
    case round =>
      obtain ⟨k, rfl, hk, hbel, HE⟩ := hrel
      by_cases hlt : k < n
      · obtain ⟨s, hs⟩ : ∃ s, l[k]? = some s := ⟨_, List.getElem?_eq_getElem (by rw [HL.out]; exact hlt)⟩
        obtain ⟨t, ht⟩ : ∃ t, m[k]? = some t := ⟨_, List.getElem?_eq_getElem (by rw [HL2.out]; exact hlt)⟩
        obtain ⟨b, o, rfl, e1, e2, e3⟩ := row_itv (HR.out.below hbel) hs
        obtain ⟨b2, o2, rfl, f1, f2, f3⟩ := row_itv (HR2.out.below hbel) ht
        have sA := (HA.out s (List.mem_of_getElem? hs)).below hbel
        have tA := (HB.out t (List.mem_of_getElem? ht)).below hbel
        have HC : Hid (∀ w1, Below wr.heap.size wr w1 → Calls Try.prog 43 #[.agg #[.int .u64 (s.x.key : Int), .slice s.A s.x.vec.length s.c, .slice s.A2 s.x.note.length s.c2], .agg #[.int .u64 (t.x.key : Int), .slice t.A t.x.vec.length t.c, .slice t.A2 t.x.note.length t.c2]] w1 fun e w' => e = .returned (.bool (ItemM.same s.x t.x)) ∧ Below w1.heap.size w1 w') := Lib.hid fun w1 h =>
          refsame_any s.x t.x s.A s.A2 t.A t.A2 s.c s.c2 t.c t.c2 _ (sA.r1.below h) (sA.r2.below h) (tA.r1.below h) (tA.r2.below h) (Nat.le_trans sA.l1 sA.m1) (Nat.le_trans tA.l1 tA.m1)
        have HX := Lib.hid (And.intro hs (And.intro ht hbel))
        have HE1 := Lib.hid (And.intro e1 (And.intro e2 e3))
        have HE2 := Lib.hid (And.intro f1 (And.intro f2 f3))
        clear hs ht sA tA hbel e1 e2 e3 f1 f2 f3
        go_upto_region 6 with fail
        by_cases hst : s.x = t.x
        · skip
          refine wp_named fun a0 ha0 => ?_
          have z0 : a0.tmps.getD 0 undef = (.slice (some ⟨b, o, none⟩) n c) := by rw [ha0.out]; rfl
          have z1 : a0.tmps.getD 1 undef = (.slice (some ⟨b2, o2, none⟩) n c2) := by rw [ha0.out]; rfl
          have z5 : a0.tmps.getD 5 undef = (.int .i64 (k : Int)) := by rw [ha0.out]; rfl
          have hsz0 : a0.tmps.size = 27 := by rw [ha0.out]; rfl
          refine wp_region_invB _ (by kernel_rfl) (fun L a wv => PIF a0 [17, 18, 19, 20, 21, 22, 23, 24, 25, 26] (rsP b o b2 o2 k n c c2 s t true) L a ∧ Below wr.heap.size wr wv) (by kernel_rfl) ?_ ?_ ?_
          · exact ⟨PIF.start _ _ _, ⟨rfl, rfl, rfl, Nat.le_refl _, fun _ _ => rfl⟩⟩
          rotate_left
          · as_aux_lemma =>
            refine ⟨?_, ?_, ?_, ?_, ?_, ?_, ?_, ?_, ?_, ?_, trivial⟩
            · intro L a w1 hI hi hd
              obtain ⟨hp, hw⟩ := hI
              have t0 := hp.at_ 0 _ rfl z0
              have t0' := t0
              rw [Array.getD_eq_getD_getElem?] at t0'
              exact rstep_valW (wanted_none rfl _) (.slice (some ⟨b, o, none⟩) n c) w1 (by go_simp) ⟨(hp.put 0 17 (.slice (some ⟨b, o, none⟩) n c) (by simp [rsP]) (by simp [rsP]) rfl (by rw [hsz0]; exact (by decide : 17 < 27))), hw⟩
            · intro L a w1 hI hi hd
              obtain ⟨hp, hw⟩ := hI
              have t5 := hp.at_ 5 _ rfl z5
              have t5' := t5
              rw [Array.getD_eq_getD_getElem?] at t5'
              exact rstep_valW (wanted_none rfl _) (.int .i64 (k : Int)) w1 (by go_simp) ⟨(hp.put 1 18 (.int .i64 (k : Int)) (by simp [rsP]) (by simp [rsP]) rfl (by rw [hsz0]; exact (by decide : 18 < 27))), hw⟩
            · intro L a w1 hI hi hd
              obtain ⟨hp, hw⟩ := hI
              simp [Region.binds] at hd
              have e0 : a.tmps.getD 17 undef = (.slice (some ⟨b, o, none⟩) n c) := hp.pu (0, 17, (.slice (some ⟨b, o, none⟩) n c)) (by simp [rsP]) (by simp [hd])
              have f0 : a.tmps[17]?.getD undef = (.slice (some ⟨b, o, none⟩) n c) := by rw [← Array.getD_eq_getD_getElem?]; exact e0
              have e1 : a.tmps.getD 18 undef = (.int .i64 (k : Int)) := hp.pu (1, 18, (.int .i64 (k : Int))) (by simp [rsP]) (by simp [hd])
              have f1 : a.tmps[18]?.getD undef = (.int .i64 (k : Int)) := by rw [← Array.getD_eq_getD_getElem?]; exact e1
              have hk := hlt
              exact rstep_valW (wanted_none rfl _) (.pointer (some ⟨b, o + k * 3, none⟩)) w1 (by go_simp) ⟨(hp.put 2 19 (.pointer (some ⟨b, o + k * 3, none⟩)) (by simp [rsP]) (by simp [rsP]) rfl (by rw [hsz0]; exact (by decide : 19 < 27))), hw⟩
            · intro L a w1 hI hi hd
              obtain ⟨hp, hw⟩ := hI
              simp [Region.binds] at hd
              have e2 : a.tmps.getD 19 undef = (.pointer (some ⟨b, o + k * 3, none⟩)) := hp.pu (2, 19, (.pointer (some ⟨b, o + k * 3, none⟩))) (by simp [rsP]) (by simp [hd])
              have f2 : a.tmps[19]?.getD undef = (.pointer (some ⟨b, o + k * 3, none⟩)) := by rw [← Array.getD_eq_getD_getElem?]; exact e2
              have c0 := (hw.cell (World.block_lt_of_cell? wr _ HE1.out.1)).trans HE1.out.1
              have c1 := (hw.cell (World.block_lt_of_cell? wr _ HE1.out.2.1)).trans HE1.out.2.1
              have c2 := (hw.cell (World.block_lt_of_cell? wr _ HE1.out.2.2)).trans HE1.out.2.2
              exact rstep_valW (wanted_none rfl _) (.agg #[.int .u64 (s.x.key : Int), .slice s.A s.x.vec.length s.c, .slice s.A2 s.x.note.length s.c2]) w1 (by go_simp) ⟨(hp.put 3 20 (.agg #[.int .u64 (s.x.key : Int), .slice s.A s.x.vec.length s.c, .slice s.A2 s.x.note.length s.c2]) (by simp [rsP]) (by simp [rsP]) rfl (by rw [hsz0]; exact (by decide : 20 < 27))), hw⟩
            · intro L a w1 hI hi hd
              obtain ⟨hp, hw⟩ := hI
              have t1 := hp.at_ 1 _ rfl z1
              have t1' := t1
              rw [Array.getD_eq_getD_getElem?] at t1'
              exact rstep_valW (wanted_none rfl _) (.slice (some ⟨b2, o2, none⟩) n c2) w1 (by go_simp) ⟨(hp.put 4 21 (.slice (some ⟨b2, o2, none⟩) n c2) (by simp [rsP]) (by simp [rsP]) rfl (by rw [hsz0]; exact (by decide : 21 < 27))), hw⟩
            · intro L a w1 hI hi hd
              obtain ⟨hp, hw⟩ := hI
              have t5 := hp.at_ 5 _ rfl z5
              have t5' := t5
              rw [Array.getD_eq_getD_getElem?] at t5'
              exact rstep_valW (wanted_none rfl _) (.int .i64 (k : Int)) w1 (by go_simp) ⟨(hp.put 5 22 (.int .i64 (k : Int)) (by simp [rsP]) (by simp [rsP]) rfl (by rw [hsz0]; exact (by decide : 22 < 27))), hw⟩
            · intro L a w1 hI hi hd
              obtain ⟨hp, hw⟩ := hI
              simp [Region.binds] at hd
              have e4 : a.tmps.getD 21 undef = (.slice (some ⟨b2, o2, none⟩) n c2) := hp.pu (4, 21, (.slice (some ⟨b2, o2, none⟩) n c2)) (by simp [rsP]) (by simp [hd])
              have f4 : a.tmps[21]?.getD undef = (.slice (some ⟨b2, o2, none⟩) n c2) := by rw [← Array.getD_eq_getD_getElem?]; exact e4
              have e5 : a.tmps.getD 22 undef = (.int .i64 (k : Int)) := hp.pu (5, 22, (.int .i64 (k : Int))) (by simp [rsP]) (by simp [hd])
              have f5 : a.tmps[22]?.getD undef = (.int .i64 (k : Int)) := by rw [← Array.getD_eq_getD_getElem?]; exact e5
              have hk := hlt
              exact rstep_valW (wanted_none rfl _) (.pointer (some ⟨b2, o2 + k * 3, none⟩)) w1 (by go_simp) ⟨(hp.put 6 23 (.pointer (some ⟨b2, o2 + k * 3, none⟩)) (by simp [rsP]) (by simp [rsP]) rfl (by rw [hsz0]; exact (by decide : 23 < 27))), hw⟩
            · intro L a w1 hI hi hd
              obtain ⟨hp, hw⟩ := hI
              simp [Region.binds] at hd
              have e6 : a.tmps.getD 23 undef = (.pointer (some ⟨b2, o2 + k * 3, none⟩)) := hp.pu (6, 23, (.pointer (some ⟨b2, o2 + k * 3, none⟩))) (by simp [rsP]) (by simp [hd])
              have f6 : a.tmps[23]?.getD undef = (.pointer (some ⟨b2, o2 + k * 3, none⟩)) := by rw [← Array.getD_eq_getD_getElem?]; exact e6
              have c0 := (hw.cell (World.block_lt_of_cell? wr _ HE2.out.1)).trans HE2.out.1
              have c1 := (hw.cell (World.block_lt_of_cell? wr _ HE2.out.2.1)).trans HE2.out.2.1
              have c2 := (hw.cell (World.block_lt_of_cell? wr _ HE2.out.2.2)).trans HE2.out.2.2
              exact rstep_valW (wanted_none rfl _) (.agg #[.int .u64 (t.x.key : Int), .slice t.A t.x.vec.length t.c, .slice t.A2 t.x.note.length t.c2]) w1 (by go_simp) ⟨(hp.put 7 24 (.agg #[.int .u64 (t.x.key : Int), .slice t.A t.x.vec.length t.c, .slice t.A2 t.x.note.length t.c2]) (by simp [rsP]) (by simp [rsP]) rfl (by rw [hsz0]; exact (by decide : 24 < 27))), hw⟩
            · intro L a w1 hI hi hd
              obtain ⟨hp, hw⟩ := hI
              simp [Region.binds] at hd
              have e3 : a.tmps.getD 20 undef = (.agg #[.int .u64 (s.x.key : Int), .slice s.A s.x.vec.length s.c, .slice s.A2 s.x.note.length s.c2]) := hp.pu (3, 20, (.agg #[.int .u64 (s.x.key : Int), .slice s.A s.x.vec.length s.c, .slice s.A2 s.x.note.length s.c2])) (by simp [rsP]) (by simp [hd])
              have f3 : a.tmps[20]?.getD undef = (.agg #[.int .u64 (s.x.key : Int), .slice s.A s.x.vec.length s.c, .slice s.A2 s.x.note.length s.c2]) := by rw [← Array.getD_eq_getD_getElem?]; exact e3
              have e7 : a.tmps.getD 24 undef = (.agg #[.int .u64 (t.x.key : Int), .slice t.A t.x.vec.length t.c, .slice t.A2 t.x.note.length t.c2]) := hp.pu (7, 24, (.agg #[.int .u64 (t.x.key : Int), .slice t.A t.x.vec.length t.c, .slice t.A2 t.x.note.length t.c2])) (by simp [rsP]) (by simp [hd])
              have f7 : a.tmps[24]?.getD undef = (.agg #[.int .u64 (t.x.key : Int), .slice t.A t.x.vec.length t.c, .slice t.A2 t.x.note.length t.c2]) := by rw [← Array.getD_eq_getD_getElem?]; exact e7
              refine rstep_callW (wanted_none rfl _) 43 #[(.agg #[.int .u64 (s.x.key : Int), .slice s.A s.x.vec.length s.c, .slice s.A2 s.x.note.length s.c2]), (.agg #[.int .u64 (t.x.key : Int), .slice t.A t.x.vec.length t.c, .slice t.A2 t.x.note.length t.c2])] (by go_simp) ?_
              refine (HC.out w1 hw).mono ?_
              rintro e w2 ⟨rfl, hb2⟩
              rw [itm_same, decide_eq_true hst]
              exact ⟨(hp.put 8 25 (.bool true) (by simp [rsP]) (by simp [rsP]) rfl (by rw [hsz0]; exact (by decide : 25 < 27))), hw.trans (hb2.mono hw.size)⟩
            · intro L a w1 hI hi hd
              obtain ⟨hp, hw⟩ := hI
              simp [Region.binds] at hd
              have e8 : a.tmps.getD 25 undef = (.bool true) := hp.pu (8, 25, (.bool true)) (by simp [rsP]) (by simp [hd])
              have f8 : a.tmps[25]?.getD undef = (.bool true) := by rw [← Array.getD_eq_getD_getElem?]; exact e8
              exact rstep_valW (wanted_none rfl _) (.bool false) w1 (by go_simp) ⟨(hp.put 9 26 (.bool false) (by simp [rsP]) (by simp [rsP]) rfl (by rw [hsz0]; exact (by decide : 26 < 27))), hw⟩
          rintro L a W0 ⟨hp, hw⟩ hL
          have e9 : a.tmps.getD 26 undef = (.bool false) := hp.pu (9, 26, _) (by simp [rsP]) (hL 9 (by simp))
          have HB2 := Lib.hid (below_step HX.out.2.2 hw (Nat.le_refl _))
          clear hw
          rw [hp.eq]
          refine of_assigns (P := Try.prog) _ _ _ _ ?_
          rw [ha0.out]
          simp only [asgs, List.map, e9]
          generalize a.tmps.getD 17 undef = u17
          generalize a.tmps.getD 18 undef = u18
          generalize a.tmps.getD 19 undef = u19
          generalize a.tmps.getD 20 undef = u20
          generalize a.tmps.getD 21 undef = u21
          generalize a.tmps.getD 22 undef = u22
          generalize a.tmps.getD 23 undef = u23
          generalize a.tmps.getD 24 undef = u24
          generalize a.tmps.getD 25 undef = u25
          clear hp hL hsz0 e9 z0 z1 z5
          clear ha0
          go_wp2
          go_roundw
          case rel =>
            refine ⟨k + 1, by go_num, by omega, HB2.out, Lib.hid fun j hj => ?_⟩
            by_cases e : j = k
            · subst e; rw [List.getElem?_map, List.getElem?_map, HX.out.1, HX.out.2.1]; simp [hst]
            · exact HE.out j (by omega)
          case measure => simp [RowKit.intOf]; omega
        · skip
          refine wp_named fun a0 ha0 => ?_
          have z0 : a0.tmps.getD 0 undef = (.slice (some ⟨b, o, none⟩) n c) := by rw [ha0.out]; rfl
          have z1 : a0.tmps.getD 1 undef = (.slice (some ⟨b2, o2, none⟩) n c2) := by rw [ha0.out]; rfl
          have z5 : a0.tmps.getD 5 undef = (.int .i64 (k : Int)) := by rw [ha0.out]; rfl
          have hsz0 : a0.tmps.size = 27 := by rw [ha0.out]; rfl
          refine wp_region_invB _ (by kernel_rfl) (fun L a wv => PIF a0 [17, 18, 19, 20, 21, 22, 23, 24, 25, 26] (rsP b o b2 o2 k n c c2 s t false) L a ∧ Below wr.heap.size wr wv) (by kernel_rfl) ?_ ?_ ?_
          · exact ⟨PIF.start _ _ _, ⟨rfl, rfl, rfl, Nat.le_refl _, fun _ _ => rfl⟩⟩
          rotate_left
          · as_aux_lemma =>
            refine ⟨?_, ?_, ?_, ?_, ?_, ?_, ?_, ?_, ?_, ?_, trivial⟩
            · intro L a w1 hI hi hd
              obtain ⟨hp, hw⟩ := hI
              have t0 := hp.at_ 0 _ rfl z0
              have t0' := t0
              rw [Array.getD_eq_getD_getElem?] at t0'
              exact rstep_valW (wanted_none rfl _) (.slice (some ⟨b, o, none⟩) n c) w1 (by go_simp) ⟨(hp.put 0 17 (.slice (some ⟨b, o, none⟩) n c) (by simp [rsP]) (by simp [rsP]) rfl (by rw [hsz0]; exact (by decide : 17 < 27))), hw⟩
            · intro L a w1 hI hi hd
              obtain ⟨hp, hw⟩ := hI
              have t5 := hp.at_ 5 _ rfl z5
              have t5' := t5
              rw [Array.getD_eq_getD_getElem?] at t5'
              exact rstep_valW (wanted_none rfl _) (.int .i64 (k : Int)) w1 (by go_simp) ⟨(hp.put 1 18 (.int .i64 (k : Int)) (by simp [rsP]) (by simp [rsP]) rfl (by rw [hsz0]; exact (by decide : 18 < 27))), hw⟩
            · intro L a w1 hI hi hd
              obtain ⟨hp, hw⟩ := hI
              simp [Region.binds] at hd
              have e0 : a.tmps.getD 17 undef = (.slice (some ⟨b, o, none⟩) n c) := hp.pu (0, 17, (.slice (some ⟨b, o, none⟩) n c)) (by simp [rsP]) (by simp [hd])
              have f0 : a.tmps[17]?.getD undef = (.slice (some ⟨b, o, none⟩) n c) := by rw [← Array.getD_eq_getD_getElem?]; exact e0
              have e1 : a.tmps.getD 18 undef = (.int .i64 (k : Int)) := hp.pu (1, 18, (.int .i64 (k : Int))) (by simp [rsP]) (by simp [hd])
              have f1 : a.tmps[18]?.getD undef = (.int .i64 (k : Int)) := by rw [← Array.getD_eq_getD_getElem?]; exact e1
              have hk := hlt
              exact rstep_valW (wanted_none rfl _) (.pointer (some ⟨b, o + k * 3, none⟩)) w1 (by go_simp) ⟨(hp.put 2 19 (.pointer (some ⟨b, o + k * 3, none⟩)) (by simp [rsP]) (by simp [rsP]) rfl (by rw [hsz0]; exact (by decide : 19 < 27))), hw⟩
            · intro L a w1 hI hi hd
              obtain ⟨hp, hw⟩ := hI
              simp [Region.binds] at hd
              have e2 : a.tmps.getD 19 undef = (.pointer (some ⟨b, o + k * 3, none⟩)) := hp.pu (2, 19, (.pointer (some ⟨b, o + k * 3, none⟩))) (by simp [rsP]) (by simp [hd])
              have f2 : a.tmps[19]?.getD undef = (.pointer (some ⟨b, o + k * 3, none⟩)) := by rw [← Array.getD_eq_getD_getElem?]; exact e2
              have c0 := (hw.cell (World.block_lt_of_cell? wr _ HE1.out.1)).trans HE1.out.1
              have c1 := (hw.cell (World.block_lt_of_cell? wr _ HE1.out.2.1)).trans HE1.out.2.1
              have c2 := (hw.cell (World.block_lt_of_cell? wr _ HE1.out.2.2)).trans HE1.out.2.2
              exact rstep_valW (wanted_none rfl _) (.agg #[.int .u64 (s.x.key : Int), .slice s.A s.x.vec.length s.c, .slice s.A2 s.x.note.length s.c2]) w1 (by go_simp) ⟨(hp.put 3 20 (.agg #[.int .u64 (s.x.key : Int), .slice s.A s.x.vec.length s.c, .slice s.A2 s.x.note.length s.c2]) (by simp [rsP]) (by simp [rsP]) rfl (by rw [hsz0]; exact (by decide : 20 < 27))), hw⟩
            · intro L a w1 hI hi hd
              obtain ⟨hp, hw⟩ := hI
              have t1 := hp.at_ 1 _ rfl z1
              have t1' := t1
              rw [Array.getD_eq_getD_getElem?] at t1'
              exact rstep_valW (wanted_none rfl _) (.slice (some ⟨b2, o2, none⟩) n c2) w1 (by go_simp) ⟨(hp.put 4 21 (.slice (some ⟨b2, o2, none⟩) n c2) (by simp [rsP]) (by simp [rsP]) rfl (by rw [hsz0]; exact (by decide : 21 < 27))), hw⟩
            · intro L a w1 hI hi hd
              obtain ⟨hp, hw⟩ := hI
              have t5 := hp.at_ 5 _ rfl z5
              have t5' := t5
              rw [Array.getD_eq_getD_getElem?] at t5'
              exact rstep_valW (wanted_none rfl _) (.int .i64 (k : Int)) w1 (by go_simp) ⟨(hp.put 5 22 (.int .i64 (k : Int)) (by simp [rsP]) (by simp [rsP]) rfl (by rw [hsz0]; exact (by decide : 22 < 27))), hw⟩
            · intro L a w1 hI hi hd
              obtain ⟨hp, hw⟩ := hI
              simp [Region.binds] at hd
              have e4 : a.tmps.getD 21 undef = (.slice (some ⟨b2, o2, none⟩) n c2) := hp.pu (4, 21, (.slice (some ⟨b2, o2, none⟩) n c2)) (by simp [rsP]) (by simp [hd])
              have f4 : a.tmps[21]?.getD undef = (.slice (some ⟨b2, o2, none⟩) n c2) := by rw [← Array.getD_eq_getD_getElem?]; exact e4
              have e5 : a.tmps.getD 22 undef = (.int .i64 (k : Int)) := hp.pu (5, 22, (.int .i64 (k : Int))) (by simp [rsP]) (by simp [hd])
              have f5 : a.tmps[22]?.getD undef = (.int .i64 (k : Int)) := by rw [← Array.getD_eq_getD_getElem?]; exact e5
              have hk := hlt
              exact rstep_valW (wanted_none rfl _) (.pointer (some ⟨b2, o2 + k * 3, none⟩)) w1 (by go_simp) ⟨(hp.put 6 23 (.pointer (some ⟨b2, o2 + k * 3, none⟩)) (by simp [rsP]) (by simp [rsP]) rfl (by rw [hsz0]; exact (by decide : 23 < 27))), hw⟩
            · intro L a w1 hI hi hd
              obtain ⟨hp, hw⟩ := hI
              simp [Region.binds] at hd
              have e6 : a.tmps.getD 23 undef = (.pointer (some ⟨b2, o2 + k * 3, none⟩)) := hp.pu (6, 23, (.pointer (some ⟨b2, o2 + k * 3, none⟩))) (by simp [rsP]) (by simp [hd])
              have f6 : a.tmps[23]?.getD undef = (.pointer (some ⟨b2, o2 + k * 3, none⟩)) := by rw [← Array.getD_eq_getD_getElem?]; exact e6
              have c0 := (hw.cell (World.block_lt_of_cell? wr _ HE2.out.1)).trans HE2.out.1
              have c1 := (hw.cell (World.block_lt_of_cell? wr _ HE2.out.2.1)).trans HE2.out.2.1
              have c2 := (hw.cell (World.block_lt_of_cell? wr _ HE2.out.2.2)).trans HE2.out.2.2
              exact rstep_valW (wanted_none rfl _) (.agg #[.int .u64 (t.x.key : Int), .slice t.A t.x.vec.length t.c, .slice t.A2 t.x.note.length t.c2]) w1 (by go_simp) ⟨(hp.put 7 24 (.agg #[.int .u64 (t.x.key : Int), .slice t.A t.x.vec.length t.c, .slice t.A2 t.x.note.length t.c2]) (by simp [rsP]) (by simp [rsP]) rfl (by rw [hsz0]; exact (by decide : 24 < 27))), hw⟩
            · intro L a w1 hI hi hd
              obtain ⟨hp, hw⟩ := hI
              simp [Region.binds] at hd
              have e3 : a.tmps.getD 20 undef = (.agg #[.int .u64 (s.x.key : Int), .slice s.A s.x.vec.length s.c, .slice s.A2 s.x.note.length s.c2]) := hp.pu (3, 20, (.agg #[.int .u64 (s.x.key : Int), .slice s.A s.x.vec.length s.c, .slice s.A2 s.x.note.length s.c2])) (by simp [rsP]) (by simp [hd])
              have f3 : a.tmps[20]?.getD undef = (.agg #[.int .u64 (s.x.key : Int), .slice s.A s.x.vec.length s.c, .slice s.A2 s.x.note.length s.c2]) := by rw [← Array.getD_eq_getD_getElem?]; exact e3
              have e7 : a.tmps.getD 24 undef = (.agg #[.int .u64 (t.x.key : Int), .slice t.A t.x.vec.length t.c, .slice t.A2 t.x.note.length t.c2]) := hp.pu (7, 24, (.agg #[.int .u64 (t.x.key : Int), .slice t.A t.x.vec.length t.c, .slice t.A2 t.x.note.length t.c2])) (by simp [rsP]) (by simp [hd])
              have f7 : a.tmps[24]?.getD undef = (.agg #[.int .u64 (t.x.key : Int), .slice t.A t.x.vec.length t.c, .slice t.A2 t.x.note.length t.c2]) := by rw [← Array.getD_eq_getD_getElem?]; exact e7
              refine rstep_callW (wanted_none rfl _) 43 #[(.agg #[.int .u64 (s.x.key : Int), .slice s.A s.x.vec.length s.c, .slice s.A2 s.x.note.length s.c2]), (.agg #[.int .u64 (t.x.key : Int), .slice t.A t.x.vec.length t.c, .slice t.A2 t.x.note.length t.c2])] (by go_simp) ?_
              refine (HC.out w1 hw).mono ?_
              rintro e w2 ⟨rfl, hb2⟩
              rw [itm_same, decide_eq_false hst]
              exact ⟨(hp.put 8 25 (.bool false) (by simp [rsP]) (by simp [rsP]) rfl (by rw [hsz0]; exact (by decide : 25 < 27))), hw.trans (hb2.mono hw.size)⟩
            · intro L a w1 hI hi hd
              obtain ⟨hp, hw⟩ := hI
              simp [Region.binds] at hd
              have e8 : a.tmps.getD 25 undef = (.bool false) := hp.pu (8, 25, (.bool false)) (by simp [rsP]) (by simp [hd])
              have f8 : a.tmps[25]?.getD undef = (.bool false) := by rw [← Array.getD_eq_getD_getElem?]; exact e8
              exact rstep_valW (wanted_none rfl _) (.bool true) w1 (by go_simp) ⟨(hp.put 9 26 (.bool true) (by simp [rsP]) (by simp [rsP]) rfl (by rw [hsz0]; exact (by decide : 26 < 27))), hw⟩
          rintro L a W0 ⟨hp, hw⟩ hL
          have e9 : a.tmps.getD 26 undef = (.bool true) := hp.pu (9, 26, _) (by simp [rsP]) (hL 9 (by simp))
          have HB2 := Lib.hid (below_step HX.out.2.2 hw (Nat.le_refl _))
          clear hw
          rw [hp.eq]
          refine of_assigns (P := Try.prog) _ _ _ _ ?_
          rw [ha0.out]
          simp only [asgs, List.map, e9]
          generalize a.tmps.getD 17 undef = u17
          generalize a.tmps.getD 18 undef = u18
          generalize a.tmps.getD 19 undef = u19
          generalize a.tmps.getD 20 undef = u20
          generalize a.tmps.getD 21 undef = u21
          generalize a.tmps.getD 22 undef = u22
          generalize a.tmps.getD 23 undef = u23
          generalize a.tmps.getD 24 undef = u24
          generalize a.tmps.getD 25 undef = u25
          clear hp hL hsz0 e9 z0 z1 z5
          clear ha0
          go_wp2
          go_ret
          exact BoolP.no (map_ne HX.out.1 HX.out.2.1 hst) HB2.out
      · obtain rfl : k = n := by omega
        go_wp2
        go_ret
        exact BoolP.yes (map_eq_ HL.out HL2.out HE.out) hbel
  · go_enter Try.func44, Try.ntmps44
    go_wp2
    go_ret
    exact BoolP.no (fun h => hd (by rw [← HL.out, ← HL2.out]; have := congrArg List.length h; simpa using this)) (Below.refl _ _)
end Go.Proofs.Ytaadfalklddhcaa
/-! part -/
namespace Go.Proofs.Ytaadfalklddhcaa
open Go.RowKit Go.Sort Go.Lib
set_option linter.unusedVariables false
set_option linter.unusedSimpArgs false
/-- A reply with where its lists lie. -/
structure Rpv where
  kind : Int
  mark : Int
  errno : Int
  place : Int
  it : Itv
  IA : Option Addr
  ic : Nat
  its : List Itv
  HA : Option Addr
  hc : Nat
  hits : List (Nat × Int)
def Rpv.x (s : Rpv) : Rp := ⟨s.kind, s.mark, s.errno, s.place, s.it.x, s.its.map (·.x), s.hits⟩
def Rpv.cells (s : Rpv) : Array Value := #[.int .i64 s.kind, .int .i64 s.mark, .int .i64 s.errno, .int .i64 s.place, .int .u64 (s.it.x.key : Int), .slice s.it.A s.it.x.vec.length s.it.c, .slice s.it.A2 s.it.x.note.length s.it.c2, .slice s.IA s.its.length s.ic, .slice s.HA s.hits.length s.hc]
structure Rpv.At (s : Rpv) (w : World) : Prop where
  hi : s.it.At w
  rI : Row w s.IA (s.its.flatMap Itv.cells)
  aI : ∀ i ∈ s.its, i.At w
  rH : Row w s.HA (s.hits.flatMap hitC)
  ok : s.x.Ok
  lI : s.its.length ≤ s.ic
  lH : s.hits.length ≤ s.hc
  mI : s.ic ≤ maxLen
  mH : s.hc ≤ maxLen
theorem Rpv.At.below {s : Rpv} {w w' : World} (h : s.At w) (hb : Below w.heap.size w w') : s.At w' :=
  ⟨h.hi.below hb, h.rI.below hb, fun i hi => (h.aI i hi).below hb, h.rH.below hb, h.ok, h.lI, h.lH, h.mI, h.mH⟩
theorem Blk.c9 {w : World} {g : Nat} {t : TypeId} {a b c d e f h i j : Value} (hB : Blk w g t #[a, b, c, d, e, f, h, i, j]) :
    w.cell? ⟨g, 0, none⟩ = some a ∧ w.cell? ⟨g, 1, none⟩ = some b ∧ w.cell? ⟨g, 2, none⟩ = some c ∧ w.cell? ⟨g, 3, none⟩ = some d ∧ w.cell? ⟨g, 4, none⟩ = some e ∧ w.cell? ⟨g, 5, none⟩ = some f ∧ w.cell? ⟨g, 6, none⟩ = some h ∧ w.cell? ⟨g, 7, none⟩ = some i ∧ w.cell? ⟨g, 8, none⟩ = some j :=
  ⟨hB.cell 0, hB.cell 1, hB.cell 2, hB.cell 3, hB.cell 4, hB.cell 5, hB.cell 6, hB.cell 7, hB.cell 8⟩
set_option maxRecDepth 100000 in
set_option maxHeartbeats 8000000 in
theorem sametell_any (s t : Rpv) (w : World) (hs : s.At w) (ht : t.At w) : Calls Try.prog 20 #[.agg s.cells, .agg t.cells] w (BoolP (RepM.same s.x t.x) w) := by
  obtain ⟨kind, mark, err, pl, i, IA, ic, its, HA, hc, hits⟩ := s
  obtain ⟨kind', mark', err', pl', i', IA', ic', its', HA', hc', hits'⟩ := t
  obtain ⟨hi, rI, aI, rH, ok, lI, lH, mI, mH⟩ := hs
  obtain ⟨hi', rI', aI', rH', ok', lI', lH', mI', mH'⟩ := ht
  have hsm : RepM.same (Rpv.x ⟨kind, mark, err, pl, i, IA, ic, its, HA, hc, hits⟩) (Rpv.x ⟨kind', mark', err', pl', i', IA', ic', its', HA', hc', hits'⟩) = (decide (kind = kind') && (decide (mark = mark') && (decide (err = err') && (decide (pl = pl') && (ItemM.same i.x i'.x && (decide (its.map (·.x) = its'.map (·.x)) && decide (hits = hits'))))))) := rfl
  dsimp only at *
  clear ok ok'
  generalize RepM.same _ _ = r at hsm ⊢
  have HR := Lib.hid hsm
  clear hsm
  simp only [Rpv.cells]
  have hmx : maxLen ≤ 9223372036854775807 := by unfold maxLen; omega
  have b0 : Below w.heap.size w ((w.alloc (.cells #[.int .i64 kind, .int .i64 mark, .int .i64 err, .int .i64 pl, .int .u64 (i.x.key : Int), .slice i.A i.x.vec.length i.c, .slice i.A2 i.x.note.length i.c2, .slice IA its.length ic, .slice HA hits.length hc] 34)).alloc (.cells #[.int .i64 kind', .int .i64 mark', .int .i64 err', .int .i64 pl', .int .u64 (i'.x.key : Int), .slice i'.A i'.x.vec.length i'.c, .slice i'.A2 i'.x.note.length i'.c2, .slice IA' its'.length ic', .slice HA' hits'.length hc'] 34)) := ((Below.refl _ _).alloc (Nat.le_refl _) _).alloc (by simp) _
  have U1 := (Blk.new w 34 #[.int .i64 kind, .int .i64 mark, .int .i64 err, .int .i64 pl, .int .u64 (i.x.key : Int), .slice i.A i.x.vec.length i.c, .slice i.A2 i.x.note.length i.c2, .slice IA its.length ic, .slice HA hits.length hc]).alloc (.cells #[.int .i64 kind', .int .i64 mark', .int .i64 err', .int .i64 pl', .int .u64 (i'.x.key : Int), .slice i'.A i'.x.vec.length i'.c, .slice i'.A2 i'.x.note.length i'.c2, .slice IA' its'.length ic', .slice HA' hits'.length hc'] 34)
  have U2 := Blk.new (w.alloc (.cells #[.int .i64 kind, .int .i64 mark, .int .i64 err, .int .i64 pl, .int .u64 (i.x.key : Int), .slice i.A i.x.vec.length i.c, .slice i.A2 i.x.note.length i.c2, .slice IA its.length ic, .slice HA hits.length hc] 34)) 34 #[.int .i64 kind', .int .i64 mark', .int .i64 err', .int .i64 pl', .int .u64 (i'.x.key : Int), .slice i'.A i'.x.vec.length i'.c, .slice i'.A2 i'.x.note.length i'.c2, .slice IA' its'.length ic', .slice HA' hits'.length hc']
  have e1 : (w.alloc (.cells #[.int .i64 kind, .int .i64 mark, .int .i64 err, .int .i64 pl, .int .u64 (i.x.key : Int), .slice i.A i.x.vec.length i.c, .slice i.A2 i.x.note.length i.c2, .slice IA its.length ic, .slice HA hits.length hc] 34)).heap.size = w.heap.size + 1 := by simp
  rw [e1] at U2
  clear e1
  have R1 : Hid (i.At w ∧ i'.At w) := Lib.hid ⟨hi, hi'⟩
  have R2 : Hid ((Row w IA (its.flatMap Itv.cells) ∧ (∀ i ∈ its, i.At w) ∧ Row w IA' (its'.flatMap Itv.cells) ∧ (∀ i ∈ its', i.At w)) ∧ its.length ≤ 9223372036854775807) := Lib.hid ⟨⟨rI, aI, rI', aI'⟩, by omega⟩
  have R3 : Hid ((Row w HA (hits.flatMap hitC) ∧ Row w HA' (hits'.flatMap hitC)) ∧ hits.length ≤ 9223372036854775807) := Lib.hid ⟨⟨rH, rH'⟩, by omega⟩
  clear hi hi' rI aI rH rI' aI' rH' lI lH mI mH lI' lH' mI' mH' hmx
  have B0 := Lib.hid b0
  go_enter Try.func20, Try.ntmps20
  go_upto_region 1 with fail
  generalize (w.alloc (.cells #[.int .i64 kind, .int .i64 mark, .int .i64 err, .int .i64 pl, .int .u64 (i.x.key : Int), .slice i.A i.x.vec.length i.c, .slice i.A2 i.x.note.length i.c2, .slice IA its.length ic, .slice HA hits.length hc] 34)).alloc (.cells #[.int .i64 kind', .int .i64 mark', .int .i64 err', .int .i64 pl', .int .u64 (i'.x.key : Int), .slice i'.A i'.x.vec.length i'.c, .slice i'.A2 i'.x.note.length i'.c2, .slice IA' its'.length ic', .slice HA' hits'.length hc'] 34) = V0 at *
  obtain ⟨g, hg⟩ : ∃ g, w.heap.size = g := ⟨_, rfl⟩
  rw [hg] at U1 U2
  simp only [hg]
  have HU := Lib.hid (And.intro U1 U2)
  have HG := Lib.hid hg
  clear U1 U2 b0 hg
  obtain ⟨d0, d1, d2, d3, d4, d5, d6, d7, d8⟩ := HU.out.1.c9
  obtain ⟨e0, e1, e2, e3, e4, e5, e6, e7, e8⟩ := HU.out.2.c9
  by_cases hkd : kind = kind'
  · subst hkd
    by_cases hmk : mark = mark'
    · subst hmk
      by_cases her : err = err'
      · subst her
        by_cases hpl : pl = pl'
        · subst hpl
          go_wp2_with fail
          refine (itemsame_any i.x i'.x i.A i.A2 i'.A i'.A2 i.c i.c2 i'.c i'.c2 V0 (R1.out.1.r1.below B0.out) (R1.out.1.r2.below B0.out) (R1.out.2.r1.below B0.out) (R1.out.2.r2.below B0.out) (Nat.le_trans R1.out.1.l1 R1.out.1.m1) (Nat.le_trans R1.out.2.l1 R1.out.2.m1)).mono ?_
          rintro e w1 ⟨rfl, hb⟩
          clear d0 d1 d2 d3 d4 d5 d6 d7 d8 e0 e1 e2 e3 e4 e5 e6 e7 e8
          have B1 := Lib.hid (below_join B0.out hb)
          have HU1 := Lib.hid (And.intro (HU.out.1.below hb HU.out.1.lt) (HU.out.2.below hb HU.out.2.lt))
          clear hb
          generalize ItemM.same i.x i'.x = q1 at *
          cases q1 with
          | false =>
            go_wp2
            go_ret
            exact ⟨by rw [HR.out]; simp [*], B1.out⟩
          | true =>
            obtain ⟨d0, d1, d2, d3, d4, d5, d6, d7, d8⟩ := HU1.out.1.c9
            obtain ⟨e0, e1, e2, e3, e4, e5, e6, e7, e8⟩ := HU1.out.2.c9
            go_wp2_with fail
            refine (efun_any IA IA' its.length its'.length ic ic' its its' w1 (R2.out.1.1.below B1.out) (fun i hi => (R2.out.1.2.1 i hi).below B1.out) rfl (R2.out.1.2.2.1.below B1.out) (fun i hi => (R2.out.1.2.2.2 i hi).below B1.out) rfl R2.out.2).mono ?_
            rintro e w2 ⟨rfl, hb⟩
            clear d0 d1 d2 d3 d4 d5 d6 d7 d8 e0 e1 e2 e3 e4 e5 e6 e7 e8
            have B2 := Lib.hid (below_join B1.out hb)
            have HU2 := Lib.hid (And.intro (HU1.out.1.below hb HU1.out.1.lt) (HU1.out.2.below hb HU1.out.2.lt))
            clear hb
            generalize decide (its.map (·.x) = its'.map (·.x)) = q2 at *
            cases q2 with
            | false =>
              go_wp2
              go_ret
              exact ⟨by rw [HR.out]; simp [*], B2.out⟩
            | true =>
              obtain ⟨d0, d1, d2, d3, d4, d5, d6, d7, d8⟩ := HU2.out.1.c9
              obtain ⟨e0, e1, e2, e3, e4, e5, e6, e7, e8⟩ := HU2.out.2.c9
              go_wp2_with fail
              refine (equalH_any HA HA' hits.length hits'.length hc hc' hits hits' w2 (R3.out.1.1.below B2.out) rfl (R3.out.1.2.below B2.out) rfl R3.out.2).mono ?_
              rintro e w3 ⟨rfl, hb⟩
              clear d0 d1 d2 d3 d4 d5 d6 d7 d8 e0 e1 e2 e3 e4 e5 e6 e7 e8
              have B3 := Lib.hid (below_join B2.out hb)
              clear hb
              generalize decide (hits = hits') = q3 at *
              go_wp2
              go_ret
              exact ⟨by rw [HR.out]; simp [*], B3.out⟩
        · have hd : (pl == pl') = false := beq_eq_false_iff_ne.2 hpl
          go_wp2
          go_ret
          exact ⟨by rw [HR.out]; simp [*], B0.out⟩
      · have hd : (err == err') = false := beq_eq_false_iff_ne.2 her
        go_wp2
        go_ret
        exact ⟨by rw [HR.out]; simp [*], B0.out⟩
    · have hd : (mark == mark') = false := beq_eq_false_iff_ne.2 hmk
      go_wp2
      go_ret
      exact ⟨by rw [HR.out]; simp [*], B0.out⟩
  · have hd : (kind == kind') = false := beq_eq_false_iff_ne.2 hkd
    go_wp2
    go_ret
    exact ⟨by rw [HR.out]; simp [*], B0.out⟩
set_option maxRecDepth 100000 in
set_option maxHeartbeats 8000000 in
theorem refsametell_any (s t : Rpv) (w : World) (hs : s.At w) (ht : t.At w) : Calls Try.prog 12 #[.agg s.cells, .agg t.cells] w (BoolP (RepM.same s.x t.x) w) := by
  obtain ⟨kind, mark, err, pl, i, IA, ic, its, HA, hc, hits⟩ := s
  obtain ⟨kind', mark', err', pl', i', IA', ic', its', HA', hc', hits'⟩ := t
  obtain ⟨hi, rI, aI, rH, ok, lI, lH, mI, mH⟩ := hs
  obtain ⟨hi', rI', aI', rH', ok', lI', lH', mI', mH'⟩ := ht
  have hsm : RepM.same (Rpv.x ⟨kind, mark, err, pl, i, IA, ic, its, HA, hc, hits⟩) (Rpv.x ⟨kind', mark', err', pl', i', IA', ic', its', HA', hc', hits'⟩) = (decide (kind = kind') && (decide (mark = mark') && (decide (err = err') && (decide (pl = pl') && (ItemM.same i.x i'.x && (decide (its.map (·.x) = its'.map (·.x)) && decide (hits = hits'))))))) := rfl
  dsimp only at *
  clear ok ok'
  generalize RepM.same _ _ = r at hsm ⊢
  have HR := Lib.hid hsm
  clear hsm
  simp only [Rpv.cells]
  have hmx : maxLen ≤ 9223372036854775807 := by unfold maxLen; omega
  have b0 : Below w.heap.size w ((w.alloc (.cells #[.int .i64 kind, .int .i64 mark, .int .i64 err, .int .i64 pl, .int .u64 (i.x.key : Int), .slice i.A i.x.vec.length i.c, .slice i.A2 i.x.note.length i.c2, .slice IA its.length ic, .slice HA hits.length hc] 34)).alloc (.cells #[.int .i64 kind', .int .i64 mark', .int .i64 err', .int .i64 pl', .int .u64 (i'.x.key : Int), .slice i'.A i'.x.vec.length i'.c, .slice i'.A2 i'.x.note.length i'.c2, .slice IA' its'.length ic', .slice HA' hits'.length hc'] 34)) := ((Below.refl _ _).alloc (Nat.le_refl _) _).alloc (by simp) _
  have U1 := (Blk.new w 34 #[.int .i64 kind, .int .i64 mark, .int .i64 err, .int .i64 pl, .int .u64 (i.x.key : Int), .slice i.A i.x.vec.length i.c, .slice i.A2 i.x.note.length i.c2, .slice IA its.length ic, .slice HA hits.length hc]).alloc (.cells #[.int .i64 kind', .int .i64 mark', .int .i64 err', .int .i64 pl', .int .u64 (i'.x.key : Int), .slice i'.A i'.x.vec.length i'.c, .slice i'.A2 i'.x.note.length i'.c2, .slice IA' its'.length ic', .slice HA' hits'.length hc'] 34)
  have U2 := Blk.new (w.alloc (.cells #[.int .i64 kind, .int .i64 mark, .int .i64 err, .int .i64 pl, .int .u64 (i.x.key : Int), .slice i.A i.x.vec.length i.c, .slice i.A2 i.x.note.length i.c2, .slice IA its.length ic, .slice HA hits.length hc] 34)) 34 #[.int .i64 kind', .int .i64 mark', .int .i64 err', .int .i64 pl', .int .u64 (i'.x.key : Int), .slice i'.A i'.x.vec.length i'.c, .slice i'.A2 i'.x.note.length i'.c2, .slice IA' its'.length ic', .slice HA' hits'.length hc']
  have e1 : (w.alloc (.cells #[.int .i64 kind, .int .i64 mark, .int .i64 err, .int .i64 pl, .int .u64 (i.x.key : Int), .slice i.A i.x.vec.length i.c, .slice i.A2 i.x.note.length i.c2, .slice IA its.length ic, .slice HA hits.length hc] 34)).heap.size = w.heap.size + 1 := by simp
  rw [e1] at U2
  clear e1
  have R1 : Hid (i.At w ∧ i'.At w) := Lib.hid ⟨hi, hi'⟩
  have R2 : Hid ((Row w IA (its.flatMap Itv.cells) ∧ (∀ i ∈ its, i.At w) ∧ Row w IA' (its'.flatMap Itv.cells) ∧ (∀ i ∈ its', i.At w)) ∧ its.length ≤ 9223372036854775807) := Lib.hid ⟨⟨rI, aI, rI', aI'⟩, by omega⟩
  have R3 : Hid ((Row w HA (hits.flatMap hitC) ∧ Row w HA' (hits'.flatMap hitC)) ∧ hits.length ≤ 9223372036854775807) := Lib.hid ⟨⟨rH, rH'⟩, by omega⟩
  clear hi hi' rI aI rH rI' aI' rH' lI lH mI mH lI' lH' mI' mH' hmx
  have B0 := Lib.hid b0
  go_enter Try.func12, Try.ntmps12
  go_upto_region 1 with fail
  generalize (w.alloc (.cells #[.int .i64 kind, .int .i64 mark, .int .i64 err, .int .i64 pl, .int .u64 (i.x.key : Int), .slice i.A i.x.vec.length i.c, .slice i.A2 i.x.note.length i.c2, .slice IA its.length ic, .slice HA hits.length hc] 34)).alloc (.cells #[.int .i64 kind', .int .i64 mark', .int .i64 err', .int .i64 pl', .int .u64 (i'.x.key : Int), .slice i'.A i'.x.vec.length i'.c, .slice i'.A2 i'.x.note.length i'.c2, .slice IA' its'.length ic', .slice HA' hits'.length hc'] 34) = V0 at *
  obtain ⟨g, hg⟩ : ∃ g, w.heap.size = g := ⟨_, rfl⟩
  rw [hg] at U1 U2
  simp only [hg]
  have HU := Lib.hid (And.intro U1 U2)
  have HG := Lib.hid hg
  clear U1 U2 b0 hg
  obtain ⟨d0, d1, d2, d3, d4, d5, d6, d7, d8⟩ := HU.out.1.c9
  obtain ⟨e0, e1, e2, e3, e4, e5, e6, e7, e8⟩ := HU.out.2.c9
  by_cases hkd : kind = kind'
  · subst hkd
    by_cases hmk : mark = mark'
    · subst hmk
      by_cases her : err = err'
      · subst her
        by_cases hpl : pl = pl'
        · subst hpl
          go_wp2_with fail
          refine (refsame_any i.x i'.x i.A i.A2 i'.A i'.A2 i.c i.c2 i'.c i'.c2 V0 (R1.out.1.r1.below B0.out) (R1.out.1.r2.below B0.out) (R1.out.2.r1.below B0.out) (R1.out.2.r2.below B0.out) (Nat.le_trans R1.out.1.l1 R1.out.1.m1) (Nat.le_trans R1.out.2.l1 R1.out.2.m1)).mono ?_
          rintro e w1 ⟨rfl, hb⟩
          clear d0 d1 d2 d3 d4 d5 d6 d7 d8 e0 e1 e2 e3 e4 e5 e6 e7 e8
          have B1 := Lib.hid (below_join B0.out hb)
          have HU1 := Lib.hid (And.intro (HU.out.1.below hb HU.out.1.lt) (HU.out.2.below hb HU.out.2.lt))
          clear hb
          generalize ItemM.same i.x i'.x = q1 at *
          cases q1 with
          | false =>
            go_wp2
            go_ret
            exact ⟨by rw [HR.out]; simp [*], B1.out⟩
          | true =>
            obtain ⟨d0, d1, d2, d3, d4, d5, d6, d7, d8⟩ := HU1.out.1.c9
            obtain ⟨e0, e1, e2, e3, e4, e5, e6, e7, e8⟩ := HU1.out.2.c9
            go_wp2_with fail
            refine (refsames_any IA IA' its.length its'.length ic ic' its its' w1 (R2.out.1.1.below B1.out) (fun i hi => (R2.out.1.2.1 i hi).below B1.out) rfl (R2.out.1.2.2.1.below B1.out) (fun i hi => (R2.out.1.2.2.2 i hi).below B1.out) rfl R2.out.2).mono ?_
            rintro e w2 ⟨rfl, hb⟩
            clear d0 d1 d2 d3 d4 d5 d6 d7 d8 e0 e1 e2 e3 e4 e5 e6 e7 e8
            have B2 := Lib.hid (below_join B1.out hb)
            have HU2 := Lib.hid (And.intro (HU1.out.1.below hb HU1.out.1.lt) (HU1.out.2.below hb HU1.out.2.lt))
            clear hb
            generalize decide (its.map (·.x) = its'.map (·.x)) = q2 at *
            cases q2 with
            | false =>
              go_wp2
              go_ret
              exact ⟨by rw [HR.out]; simp [*], B2.out⟩
            | true =>
              obtain ⟨d0, d1, d2, d3, d4, d5, d6, d7, d8⟩ := HU2.out.1.c9
              obtain ⟨e0, e1, e2, e3, e4, e5, e6, e7, e8⟩ := HU2.out.2.c9
              go_wp2_with fail
              refine (refsameH_any HA HA' hits.length hits'.length hc hc' hits hits' w2 (R3.out.1.1.below B2.out) rfl (R3.out.1.2.below B2.out) rfl R3.out.2).mono ?_
              rintro e w3 ⟨rfl, hb⟩
              clear d0 d1 d2 d3 d4 d5 d6 d7 d8 e0 e1 e2 e3 e4 e5 e6 e7 e8
              have B3 := Lib.hid (below_join B2.out hb)
              clear hb
              generalize decide (hits = hits') = q3 at *
              go_wp2
              go_ret
              exact ⟨by rw [HR.out]; simp [*], B3.out⟩
        · have hd : (pl == pl') = false := beq_eq_false_iff_ne.2 hpl
          go_wp2
          go_ret
          exact ⟨by rw [HR.out]; simp [*], B0.out⟩
      · have hd : (err == err') = false := beq_eq_false_iff_ne.2 her
        go_wp2
        go_ret
        exact ⟨by rw [HR.out]; simp [*], B0.out⟩
    · have hd : (mark == mark') = false := beq_eq_false_iff_ne.2 hmk
      go_wp2
      go_ret
      exact ⟨by rw [HR.out]; simp [*], B0.out⟩
  · have hd : (kind == kind') = false := beq_eq_false_iff_ne.2 hkd
    go_wp2
    go_ret
    exact ⟨by rw [HR.out]; simp [*], B0.out⟩
end Go.Proofs.Ytaadfalklddhcaa
/-! part -/
namespace Go.Proofs.Ytaadfalklddhcaa
open Go.RowKit Go.Sort Go.Lib
set_option linter.unusedVariables false
set_option linter.unusedSimpArgs false
/-- Some answer. -/
def AnyB (w : World) (e : Ending) (w' : World) : Prop := ∃ r : Bool, e = .returned (.bool r) ∧ Below w.heap.size w w'
set_option maxRecDepth 100000 in
set_option maxHeartbeats 4000000 in
theorem heavy_any (s : Rpv) (w : World) (hs : s.At w) : Calls Try.prog 14 #[.agg s.cells] w (AnyB w) := by
  obtain ⟨kind, mark, err, pl, i, IA, ic, its, HA, hc, hits⟩ := s
  obtain ⟨hi, rI, aI, rH, ok, lI, lH, mI, mH⟩ := hs
  dsimp only at *
  simp only [Rpv.cells]
  have hmx : maxLen ≤ 9223372036854775807 := by unfold maxLen; omega
  have hlen : its.length ≤ 9223372036854775807 := by omega
  clear hi aI rH ok lI lH mI mH hmx
  have HR := Lib.hid rI
  obtain ⟨n, hn⟩ : ∃ n, its.length = n := ⟨_, rfl⟩
  have HN := Lib.hid hn
  rw [hn] at hlen
  simp only [hn]
  have U1 := Blk.new w 34 #[.int .i64 kind, .int .i64 mark, .int .i64 err, .int .i64 pl, .int .u64 (i.x.key : Int), .slice i.A i.x.vec.length i.c, .slice i.A2 i.x.note.length i.c2, .slice IA n ic, .slice HA hits.length hc]
  have b0 : Below w.heap.size w (w.alloc (.cells #[.int .i64 kind, .int .i64 mark, .int .i64 err, .int .i64 pl, .int .u64 (i.x.key : Int), .slice i.A i.x.vec.length i.c, .slice i.A2 i.x.note.length i.c2, .slice IA n ic, .slice HA hits.length hc] 34)) := (Below.refl _ _).alloc (Nat.le_refl _) _
  clear rI hn
  go_enter Try.func14, Try.ntmps14
  go_upto_region 1 with fail
  generalize w.alloc (.cells #[.int .i64 kind, .int .i64 mark, .int .i64 err, .int .i64 pl, .int .u64 (i.x.key : Int), .slice i.A i.x.vec.length i.c, .slice i.A2 i.x.note.length i.c2, .slice IA n ic, .slice HA hits.length hc] 34) = V0 at *
  obtain ⟨g, hg⟩ : ∃ g, w.heap.size = g := ⟨_, rfl⟩
  rw [hg] at U1
  simp only [hg]
  have HG := Lib.hid hg
  obtain ⟨d0, d1, d2, d3, d4, d5, d6, d7, d8⟩ := U1.c9
  have HU := Lib.hid U1
  clear hg U1
  go_upto_region 2 with fail
  generalize IntKind.i64.wrap _ = z0
  go_wp2
  go_loopw [3, 4] (fun a b wr => ∃ (z : Int) (k : Nat), a = .int .i64 z ∧ b = .int .i64 (k : Int) ∧ k ≤ n ∧ Below V0.heap.size V0 wr) (fun _ b _ => n - (RowKit.intOf b).toNat)
  case atStart => exact ⟨_, 0, rfl, rfl, Nat.zero_le _, Below.refl _ _⟩
  case round =>
    obtain ⟨z, k, rfl, rfl, hk, hbel⟩ := hrel
    have HU1 := Lib.hid (HU.out.below hbel HU.out.lt)
    clear d0 d1 d2 d3 d4 d5 d6 d7 d8
    obtain ⟨d0, d1, d2, d3, d4, d5, d6, d7, d8⟩ := HU1.out.c9
    by_cases hlt : k < n ∧ k < 100
    · obtain ⟨hlt, hlt2⟩ := hlt
      obtain ⟨s, hs⟩ : ∃ s, its[k]? = some s := ⟨_, List.getElem?_eq_getElem (by rw [HN.out]; exact hlt)⟩
      obtain ⟨b, o, rfl, e1, e2, e3⟩ := row_itv ((HR.out.below b0).below hbel) hs
      have HB := Lib.hid hbel
      have hdn : ∀ n, Below wr.heap.size wr (wr.drewN n) := fun n => ⟨rfl, rfl, rfl, Nat.le_refl _, fun _ _ => rfl⟩
      have HDN := Lib.hid hdn
      clear hs hbel hdn
      go_wp2
      go_quiet (fail)
      have hbel2 := below_join HB.out (HDN.out nq)
      go_wp2
      go_roundw
      case rel => exact ⟨_, k + 1, rfl, by go_num, by omega, hbel2⟩
      case measure => simp [RowKit.intOf]; omega
    · have HB := Lib.hid (below_join b0 hbel)
      go_wp2
      all_goals (go_ret; exact ⟨_, rfl, HB.out⟩)
end Go.Proofs.Ytaadfalklddhcaa
/-! part -/
namespace Go.Proofs.Ytaadfalklddhcaa
open Go.ChangeShapes Go.WideShapes Go.ChangeAt Go.RowKit Go.Deep
set_option linter.unusedVariables false
section
variable {P : Program} {H : Type} {enc : TypeId × Value → H} {w : World}
/-- A struct's cells, field by field (of any number of cells). -/
theorem read_structs {t : TypeId} {fs : Array Field} {fuel : Nat} {cs : List Value} {y : DataW H × List MemPlace} (ht : P.underlying t = some (.struct fs))
    (h : DataW.trod enc P w 0 (fun _ => true) true fuel t cs = some y) : cs.length = P.cellsOf t ∧ ∃ n, ∀ (j : Nat) (f : Field), fs[j]? = some f → ∃ (z : DataW H × List MemPlace), DataW.trod enc P w 0 (fun _ => true) true n f.type ((cs.drop f.offset).take (P.cellsOf f.type)) = some z := by
  obtain ⟨ys, n', hn', hy, hlen, hyl, hf⟩ := DataW.trod_struct ht h
  refine ⟨hlen, n', fun j f hj => ?_⟩
  have hjl : j < fs.size := (Array.getElem?_eq_some_iff.1 hj).1
  have h1 := hf j f hj
  have hys : ys[j]? = some (ys[j]'(by omega)) := List.getElem?_eq_getElem (by omega)
  exact ⟨_, h1.trans hys⟩
end
section
variable {H : Type} {enc : TypeId × Value → H} {w : World}
theorem i64_wf {a : Int} (h : (Lit.int .i64 a).wf = true) : -9223372036854775808 ≤ a ∧ a < 9223372036854775808 := by
  have hb : -9223372036854775808 ≤ a ∧ a ≤ 9223372036854775807 := by simpa [Lit.wf, IntKind.min, IntKind.max, IntKind.signed, IntKind.bits] using h
  omega
abbrev ItvS (w : World) := { s : Itv // s.At w }
abbrev HitS := { h : Nat × Int // h.1 < 18446744073709551616 ∧ -9223372036854775808 ≤ h.2 ∧ h.2 < 9223372036854775808 }
def U64 := { v : Nat // v < 18446744073709551616 }
def U64.cells (v : U64) : List Value := [.int .u64 (v.1 : Int)]
theorem itvS_flat (xs : List (ItvS w)) : xs.flatMap (fun s : ItvS w => s.1.cells) = (xs.map (·.1)).flatMap Itv.cells := by
  induction xs with
  | nil => rfl
  | cons a l ih => rw [List.flatMap_cons, ih, List.map_cons, List.flatMap_cons]
theorem hitS_flat (xs : List HitS) : xs.flatMap (fun s : HitS => hitC s.1) = (xs.map (·.1)).flatMap hitC := by
  induction xs with
  | nil => rfl
  | cons a l ih => rw [List.flatMap_cons, ih, List.map_cons, List.flatMap_cons]
theorem u64s_flat (xs : List U64) : xs.flatMap U64.cells = u64s (xs.map (·.1)) := by
  induction xs with
  | nil => rfl
  | cons a l ih => rw [List.flatMap_cons, ih]; rfl
theorem rd_itvS (fuel : Nat) (cs : List Value) (y : DataW H × List MemPlace) (h : DataW.trod enc Try.prog w 0 (fun _ => true) true fuel 30 cs = some y) : ∃ s : ItvS w, cs = s.1.cells := by
  obtain ⟨s, e, hs⟩ := rd_itv fuel cs y h
  exact ⟨⟨s, hs⟩, e⟩
theorem rd_u64s (fuel : Nat) (cs : List Value) (y : DataW H × List MemPlace) (h : DataW.trod enc Try.prog w 0 (fun _ => true) true fuel 27 cs = some y) : ∃ s : U64, cs = s.cells := by
  obtain ⟨a, i, _, w0⟩ := DataW.trod_int Try.underlying27 h
  obtain ⟨k, rfl, hk⟩ := u64_nat w0
  exact ⟨⟨k, hk⟩, i⟩
theorem rd_hitS (fuel : Nat) (cs : List Value) (y : DataW H × List MemPlace) (h : DataW.trod enc Try.prog w 0 (fun _ => true) true fuel 67 cs = some y) : ∃ s : HitS, cs = hitC s.1 := by
  obtain ⟨hl, n, hf⟩ := read_struct Try.underlying67 (by kernel_rfl) (by kernel_rfl) h
  obtain ⟨v0, z0, e0, h0⟩ := hf 0 _ rfl
  obtain ⟨v1, z1, e1, h1⟩ := hf 1 _ rfl
  obtain ⟨a0, i0, _, w0⟩ := DataW.trod_int Try.underlying27 h0
  obtain ⟨k0, rfl, b0⟩ := u64_nat w0
  obtain ⟨a1, i1, _, w1⟩ := DataW.trod_int Try.underlying2 h1
  simp only [List.cons.injEq, and_true] at i0 i1
  subst i0 i1
  match cs, hl with
  | [x0, x1], _ =>
    simp at e0 e1
    subst e0 e1
    exact ⟨⟨(k0, a1), b0, i64_wf w1⟩, rfl⟩
set_option maxRecDepth 100000 in
set_option maxHeartbeats 4000000 in
theorem rd_reply (fuel : Nat) (cs : List Value) (y : DataW H × List MemPlace) (h : DataW.trod enc Try.prog w 0 (fun _ => true) true fuel 34 cs = some y) : ∃ s : Rpv, cs = s.cells.toList ∧ s.At w := by
  obtain ⟨hl, n, hf⟩ := read_structs Try.underlying34 h
  have cR : Try.prog.cellsOf 34 = 9 := by kernel_rfl
  have c0 : Try.prog.cellsOf 24 = 1 := by kernel_rfl
  have c1 : Try.prog.cellsOf 25 = 1 := by kernel_rfl
  have c2 : Try.prog.cellsOf 26 = 1 := by kernel_rfl
  have c3 : Try.prog.cellsOf 3 = 1 := by kernel_rfl
  have c4 : Try.prog.cellsOf 30 = 3 := by kernel_rfl
  have c5 : Try.prog.cellsOf 31 = 1 := by kernel_rfl
  have c6 : Try.prog.cellsOf 32 = 1 := by kernel_rfl
  rw [cR] at hl
  match cs, hl with
  | [x0, x1, x2, x3, x4, x5, x6, x7, x8], _ =>
    obtain ⟨z0, h0⟩ := hf 0 _ rfl
    obtain ⟨z1, h1⟩ := hf 1 _ rfl
    obtain ⟨z2, h2⟩ := hf 2 _ rfl
    obtain ⟨z3, h3⟩ := hf 3 _ rfl
    obtain ⟨z4, h4⟩ := hf 4 _ rfl
    obtain ⟨z5, h5⟩ := hf 5 _ rfl
    obtain ⟨z6, h6⟩ := hf 6 _ rfl
    change DataW.trod enc Try.prog w 0 (fun _ => true) true n 24 (List.take (Try.prog.cellsOf 24) (List.drop 0 [x0, x1, x2, x3, x4, x5, x6, x7, x8])) = some z0 at h0
    rw [c0] at h0
    change DataW.trod enc Try.prog w 0 (fun _ => true) true n 24 [x0] = some z0 at h0
    change DataW.trod enc Try.prog w 0 (fun _ => true) true n 25 (List.take (Try.prog.cellsOf 25) (List.drop 1 [x0, x1, x2, x3, x4, x5, x6, x7, x8])) = some z1 at h1
    rw [c1] at h1
    change DataW.trod enc Try.prog w 0 (fun _ => true) true n 25 [x1] = some z1 at h1
    change DataW.trod enc Try.prog w 0 (fun _ => true) true n 26 (List.take (Try.prog.cellsOf 26) (List.drop 2 [x0, x1, x2, x3, x4, x5, x6, x7, x8])) = some z2 at h2
    rw [c2] at h2
    change DataW.trod enc Try.prog w 0 (fun _ => true) true n 26 [x2] = some z2 at h2
    change DataW.trod enc Try.prog w 0 (fun _ => true) true n 3 (List.take (Try.prog.cellsOf 3) (List.drop 3 [x0, x1, x2, x3, x4, x5, x6, x7, x8])) = some z3 at h3
    rw [c3] at h3
    change DataW.trod enc Try.prog w 0 (fun _ => true) true n 3 [x3] = some z3 at h3
    change DataW.trod enc Try.prog w 0 (fun _ => true) true n 30 (List.take (Try.prog.cellsOf 30) (List.drop 4 [x0, x1, x2, x3, x4, x5, x6, x7, x8])) = some z4 at h4
    rw [c4] at h4
    change DataW.trod enc Try.prog w 0 (fun _ => true) true n 30 [x4, x5, x6] = some z4 at h4
    change DataW.trod enc Try.prog w 0 (fun _ => true) true n 31 (List.take (Try.prog.cellsOf 31) (List.drop 7 [x0, x1, x2, x3, x4, x5, x6, x7, x8])) = some z5 at h5
    rw [c5] at h5
    change DataW.trod enc Try.prog w 0 (fun _ => true) true n 31 [x7] = some z5 at h5
    change DataW.trod enc Try.prog w 0 (fun _ => true) true n 32 (List.take (Try.prog.cellsOf 32) (List.drop 8 [x0, x1, x2, x3, x4, x5, x6, x7, x8])) = some z6 at h6
    rw [c6] at h6
    change DataW.trod enc Try.prog w 0 (fun _ => true) true n 32 [x8] = some z6 at h6
    obtain ⟨a0, i0, _, w0⟩ := DataW.trod_int Try.underlying24 h0
    obtain ⟨a1, i1, _, w1⟩ := DataW.trod_int Try.underlying25 h1
    obtain ⟨a2, i2, _, w2⟩ := DataW.trod_int Try.underlying26 h2
    obtain ⟨a3, i3, _, w3⟩ := DataW.trod_int Try.underlying3 h3
    obtain ⟨it, i4, hit⟩ := rd_itv n _ _ h4
    obtain ⟨IA, ic, xs, i5, r5, lc5, m5, _⟩ := read_slice (cells := fun s : ItvS w => s.1.cells) (size := 3) (fun _ => rfl) (by omega) Try.underlying31 (by kernel_rfl) rd_itvS h5
    obtain ⟨HA, hc, ys, i6, r6, lc6, m6, _⟩ := read_slice (cells := fun s : HitS => hitC s.1) (size := 2) (fun _ => rfl) (by omega) Try.underlying32 (by kernel_rfl) rd_hitS h6
    rw [itvS_flat] at r5
    rw [hitS_flat] at r6
    simp only [List.cons.injEq, and_true] at i0 i1 i2 i3 i5 i6
    subst i0 i1 i2 i3 i5 i6
    refine ⟨⟨a0, a1, a2, a3, it, IA, ic, xs.map (·.1), HA, hc, ys.map (·.1)⟩, ?_, ⟨hit, r5, fun i hi => ?_, r6, ⟨i64_wf w0, i64_wf w1, i64_wf w2, i64_wf w3, hit.ok, fun i hi => ?_, fun h hh => ?_⟩, by simpa using lc5, by simpa using lc6, m5, m6⟩⟩
    · simp only [Rpv.cells, List.length_map]
      simp only [Itv.cells, List.cons.injEq, and_true] at i4
      obtain ⟨j4, j5, j6⟩ := i4
      rw [j4, j5, j6]
    · obtain ⟨x, _, rfl⟩ := List.mem_map.1 hi
      exact x.2
    · simp only [Rpv.x, List.mem_map] at hi
      obtain ⟨s, ⟨x, _, rfl⟩, rfl⟩ := hi
      exact x.2.ok
    · simp only [Rpv.x, List.mem_map] at hh
      obtain ⟨x, _, rfl⟩ := hh
      exact x.2
set_option maxRecDepth 100000 in
theorem read_reply {r : Reach} {b0 : Nat} {v : Value} {d : DataW H} {p : List MemPlace} (hv : Value.okWide Try.prog w r b0 34 v) (h : DataW.Trod enc Try.prog w 0 (fun _ => true) true 34 v d p) :
    ∃ (s : Rpv), v = .agg s.cells ∧ s.At w := by
  obtain ⟨cs, rfl, _⟩ := okWide_struct Try.underlying34 hv
  obtain ⟨fuel, hf⟩ := h
  obtain ⟨s, e, hr⟩ := rd_reply fuel _ _ hf
  have e' : cs.toList = s.cells.toList := by simpa [Value.cells] using e
  refine ⟨s, ?_, hr⟩
  congr 1
  exact Array.ext' e'
set_option maxRecDepth 100000 in
set_option maxHeartbeats 4000000 in
theorem rd_request (fuel : Nat) (cs : List Value) (y : DataW H × List MemPlace) (h : DataW.trod enc Try.prog w 0 (fun _ => true) true fuel 42 cs = some y) : ∃ s : Rqv, cs = s.cells.toList ∧ s.At w := by
  obtain ⟨hl, n, hf⟩ := read_structs Try.underlying42 h
  have cR : Try.prog.cellsOf 42 = 10 := by kernel_rfl
  have c0 : Try.prog.cellsOf 39 = 1 := by kernel_rfl
  have c1 : Try.prog.cellsOf 30 = 3 := by kernel_rfl
  have c2 : Try.prog.cellsOf 27 = 1 := by kernel_rfl
  have c4 : Try.prog.cellsOf 3 = 1 := by kernel_rfl
  have c5 : Try.prog.cellsOf 28 = 1 := by kernel_rfl
  have c6 : Try.prog.cellsOf 40 = 1 := by kernel_rfl
  rw [cR] at hl
  match cs, hl with
  | [x0, x1, x2, x3, x4, x5, x6, x7, x8, x9], _ =>
    obtain ⟨z0, h0⟩ := hf 0 _ rfl
    obtain ⟨z1, h1⟩ := hf 1 _ rfl
    obtain ⟨z2, h2⟩ := hf 2 _ rfl
    obtain ⟨z3, h3⟩ := hf 3 _ rfl
    obtain ⟨z4, h4⟩ := hf 4 _ rfl
    obtain ⟨z5, h5⟩ := hf 5 _ rfl
    obtain ⟨z6, h6⟩ := hf 6 _ rfl
    obtain ⟨z7, h7⟩ := hf 7 _ rfl
    change DataW.trod enc Try.prog w 0 (fun _ => true) true n 39 (List.take (Try.prog.cellsOf 39) (List.drop 0 [x0, x1, x2, x3, x4, x5, x6, x7, x8, x9])) = some z0 at h0
    rw [c0] at h0
    change DataW.trod enc Try.prog w 0 (fun _ => true) true n 39 [x0] = some z0 at h0
    change DataW.trod enc Try.prog w 0 (fun _ => true) true n 30 (List.take (Try.prog.cellsOf 30) (List.drop 1 [x0, x1, x2, x3, x4, x5, x6, x7, x8, x9])) = some z1 at h1
    rw [c1] at h1
    change DataW.trod enc Try.prog w 0 (fun _ => true) true n 30 [x1, x2, x3] = some z1 at h1
    change DataW.trod enc Try.prog w 0 (fun _ => true) true n 27 (List.take (Try.prog.cellsOf 27) (List.drop 4 [x0, x1, x2, x3, x4, x5, x6, x7, x8, x9])) = some z2 at h2
    rw [c2] at h2
    change DataW.trod enc Try.prog w 0 (fun _ => true) true n 27 [x4] = some z2 at h2
    change DataW.trod enc Try.prog w 0 (fun _ => true) true n 27 (List.take (Try.prog.cellsOf 27) (List.drop 5 [x0, x1, x2, x3, x4, x5, x6, x7, x8, x9])) = some z3 at h3
    rw [c2] at h3
    change DataW.trod enc Try.prog w 0 (fun _ => true) true n 27 [x5] = some z3 at h3
    change DataW.trod enc Try.prog w 0 (fun _ => true) true n 3 (List.take (Try.prog.cellsOf 3) (List.drop 6 [x0, x1, x2, x3, x4, x5, x6, x7, x8, x9])) = some z4 at h4
    rw [c4] at h4
    change DataW.trod enc Try.prog w 0 (fun _ => true) true n 3 [x6] = some z4 at h4
    change DataW.trod enc Try.prog w 0 (fun _ => true) true n 28 (List.take (Try.prog.cellsOf 28) (List.drop 7 [x0, x1, x2, x3, x4, x5, x6, x7, x8, x9])) = some z5 at h5
    rw [c5] at h5
    change DataW.trod enc Try.prog w 0 (fun _ => true) true n 28 [x7] = some z5 at h5
    change DataW.trod enc Try.prog w 0 (fun _ => true) true n 40 (List.take (Try.prog.cellsOf 40) (List.drop 8 [x0, x1, x2, x3, x4, x5, x6, x7, x8, x9])) = some z6 at h6
    rw [c6] at h6
    change DataW.trod enc Try.prog w 0 (fun _ => true) true n 40 [x8] = some z6 at h6
    change DataW.trod enc Try.prog w 0 (fun _ => true) true n 3 (List.take (Try.prog.cellsOf 3) (List.drop 9 [x0, x1, x2, x3, x4, x5, x6, x7, x8, x9])) = some z7 at h7
    rw [c4] at h7
    change DataW.trod enc Try.prog w 0 (fun _ => true) true n 3 [x9] = some z7 at h7
    obtain ⟨a0, i0, _, w0⟩ := DataW.trod_int Try.underlying39 h0
    obtain ⟨it, i1, hit⟩ := rd_itv n _ _ h1
    obtain ⟨b2, i2, _, w2⟩ := DataW.trod_int Try.underlying27 h2
    obtain ⟨k2, rfl, b2⟩ := u64_nat w2
    obtain ⟨b3, i3, _, w3⟩ := DataW.trod_int Try.underlying27 h3
    obtain ⟨k3, rfl, b3⟩ := u64_nat w3
    obtain ⟨a4, i4, _, w4⟩ := DataW.trod_int Try.underlying3 h4
    obtain ⟨QA, qc, xs, i5, r5, lc5, m5, _⟩ := read_slice (cells := I32.cells) (size := 1) (fun _ => rfl) (by omega) Try.underlying28 (by kernel_rfl) rd_i32 h5
    obtain ⟨FA, fc, ys, i6, r6, lc6, m6, _⟩ := read_slice (cells := U64.cells) (size := 1) (fun _ => rfl) (by omega) Try.underlying40 (by kernel_rfl) rd_u64s h6
    obtain ⟨a7, i7, _, w7⟩ := DataW.trod_int Try.underlying3 h7
    rw [i32s_flat] at r5
    rw [u64s_flat] at r6
    simp only [List.cons.injEq, and_true] at i0 i2 i3 i4 i5 i6 i7
    subst i0 i2 i3 i4 i5 i6 i7
    refine ⟨⟨⟨a0, it.x, k2, k3, a4, xs.map (·.1), ys.map (·.1), a7⟩, it.A, it.c, it.A2, it.c2, QA, qc, FA, fc⟩, ?_, ⟨hit.r1, hit.r2, r5, r6, ⟨i64_wf w0, hit.ok, b2, b3, i64_wf w4, fun v hv => ?_, fun v hv => ?_, i64_wf w7⟩, hit.l1, hit.l2, by simpa using lc5, by simpa using lc6, hit.m1, hit.m2, m5, m6⟩⟩
    · simp only [Rqv.cells, rqC, List.length_map]
      simp only [Itv.cells, List.cons.injEq, and_true] at i1
      obtain ⟨j4, j5, j6⟩ := i1
      rw [j4, j5, j6]
    · obtain ⟨x, _, rfl⟩ := List.mem_map.1 hv
      exact x.2
    · obtain ⟨x, _, rfl⟩ := List.mem_map.1 hv
      exact x.2
set_option maxRecDepth 100000 in
theorem read_request {r : Reach} {b0 : Nat} {v : Value} {d : DataW H} {p : List MemPlace} (hv : Value.okWide Try.prog w r b0 42 v) (h : DataW.Trod enc Try.prog w 0 (fun _ => true) true 42 v d p) :
    ∃ (s : Rqv), v = .agg s.cells ∧ s.At w := by
  obtain ⟨cs, rfl, _⟩ := okWide_struct Try.underlying42 hv
  obtain ⟨fuel, hf⟩ := h
  obtain ⟨s, e, hr⟩ := rd_request fuel _ _ hf
  have e' : cs.toList = s.cells.toList := by simpa [Value.cells] using e
  refine ⟨s, ?_, hr⟩
  congr 1
  exact Array.ext' e'
end
end Go.Proofs.Ytaadfalklddhcaa
/-! part -/
namespace Go.Proofs.Ytaadfalklddhcaa
open Go.RowKit Go.Sort Go.Lib
set_option linter.unusedVariables false
set_option linter.unusedSimpArgs false
def knownX : Rq := ⟨6, ⟨0, [], []⟩, 0, 0, 2, [-1], [], 0⟩
def knownV (g : Nat) : Rqv := ⟨knownX, none, 0, none, 0, some ⟨g, 0, none⟩, 1, none, 0⟩
theorem knownX_ok : knownX.Ok := ⟨by decide, StmM.no_ok, by decide, by decide, by decide, by decide, (fun v hv => by cases hv), by decide⟩
theorem knownV_at (w : World) : (knownV w.heap.size).At (w.alloc (.cells #[.int .i32 (-1)] 21)) :=
  ⟨.inl rfl, .inl rfl, row_i1 w (-1), .inl rfl, knownX_ok, Nat.le_refl _, Nat.le_refl _, Nat.le_refl _, Nat.le_refl _, Nat.zero_le _, Nat.zero_le _, by show 1 ≤ maxLen; unfold maxLen; omega, Nat.zero_le _⟩
theorem knownX_may : StmM.may knownX = true := by
  rw [StmM.may_iff]
  refine ⟨by decide, by decide, ?_, by decide, by decide, by decide, by decide, by decide, by decide, ?_⟩
  · exact (StmM.same_iff _ _).2 rfl
  · exact ⟨fun h => absurd h (by decide), fun _ => by decide⟩
theorem knownX_form : StmM.form knownX = [6, 2, 1, 255, 255, 255, 255] := by decide
theorem known_may (g : Nat) : StmM.may (knownV g).x = true := knownX_may
theorem known_form (g : Nat) : StmM.form (knownV g).x = [6, 2, 1, 255, 255, 255, 255] := knownX_form
set_option maxRecDepth 100000 in
theorem known22_any (w : World) : Calls Try.prog 9 #[] w (BoolP true w) := by
  have hb0 : Below w.heap.size w (w.alloc (.cells #[.int .i32 (-1)] 21)) := (Below.refl _ _).alloc (Nat.le_refl _) _
  have HC := Lib.hid (ask_any (knownV w.heap.size) _ (knownV_at w))
  rw [known_may, known_form] at HC
  go_enter Try.func9, Try.ntmps9
  go_wp2_with fail
  refine HC.out.mono ?_
  rintro e w2 ⟨A, n, c, rfl, hn, hO, hb⟩
  obtain rfl : 7 = n := hn.out
  have hs : (convert 22 9 (.slice A 7 c)).run Try.prog w2 = .ok (.string ⟨#[6, 2, 1, 255, 255, 255, 255]⟩) w2 := run_str w2 (l := [6, 2, 1, 255, 255, 255, 255]) c hO.row
  have HB := Lib.hid (below_join hb0 hb)
  clear hb hb0 hn
  go_wp2
  go_ret
  exact ⟨rfl, HB.out⟩
end Go.Proofs.Ytaadfalklddhcaa
/-! part -/
namespace Go.Proofs.Ytaadfalklddhcaa
open Go.RowKit Go.Sort Go.Lib
set_option linter.unusedVariables false
set_option linter.unusedSimpArgs false
def ssP (g : Nat) (s t : Rpv) (bv : Bool) : List (Nat × Nat × Value) := [(0, 12, (.agg s.cells)), (1, 13, (.agg t.cells)), (2, 14, (.bool bv)), (3, 15, (.agg s.cells)), (4, 16, (.agg t.cells)), (5, 17, (.bool bv)), (6, 18, (.bool true)), (7, 19, (.bool true)), (8, 20, (.agg t.cells)), (9, 21, (.agg s.cells)), (10, 22, (.bool bv)), (11, 23, (.agg s.cells)), (12, 24, (.agg t.cells)), (13, 25, (.bool bv)), (14, 26, (.bool true)), (15, 27, (.bool true)), (16, 28, (.bool true)), (17, 29, (.agg s.cells)), (18, 30, (.agg s.cells)), (19, 31, (.bool true)), (20, 32, (.bool true)), (21, 33, (.bool true)), (22, 34, (.bool true)), (23, 35, (.bool true)), (24, 4, (.bool true))]
set_option maxRecDepth 100000 in
set_option maxHeartbeats 16000000 in
theorem stmtSame_walk (s t : Rpv) (w : World) (hs : s.At w) (ht : t.At w) :
    Calls Try.prog 5 #[.agg s.cells, .agg t.cells] w fun e w' => e = .returned (.bool true) ∧ Below w.heap.size w w' := by
  have HS0 := Lib.hid hs
  have HT0 := Lib.hid ht
  clear hs ht
  have b0 : Below w.heap.size w ((w.alloc (.cells s.cells 34)).alloc (.cells t.cells 34)) := ((Below.refl _ _).alloc (Nat.le_refl _) _).alloc (by simp) _
  have U1 := (Blk.new w 34 s.cells).alloc (.cells t.cells 34)
  have U2 := Blk.new (w.alloc (.cells s.cells 34)) 34 t.cells
  have e1 : (w.alloc (.cells s.cells 34)).heap.size = w.heap.size + 1 := by simp
  rw [e1] at U2
  clear e1
  go_enter Try.func5, Try.ntmps5
  go_upto_region 1 with fail
  generalize (w.alloc (.cells s.cells 34)).alloc (.cells t.cells 34) = V0 at *
  obtain ⟨g, hg⟩ : ∃ g, w.heap.size = g := ⟨_, rfl⟩
  rw [hg] at U1 U2
  simp only [hg]
  have HG := Lib.hid hg
  have HSa := Lib.hid (HS0.out.below b0)
  have HTa := Lib.hid (HT0.out.below b0)
  have B0 := Lib.hid b0
  clear hg b0 HS0 HT0
  go_wp2_with (first | (refine wpl_load_row rfl _ (.tmp 2) rfl (g) (by go_simp) _ s.cells (0, 0) _ U1 Try.underlying34 rfl (by kernel_rfl) ?_) | (refine wpl_load_row rfl _ (.tmp 3) rfl (g + 1) (by go_simp) _ t.cells (0, 0) _ U2 Try.underlying34 rfl (by kernel_rfl) ?_))
  refine (heavy_any s V0 HSa.out).mono ?_
  rintro e V1 ⟨r1, rfl, hb⟩
  have X1 := U1.below hb U1.lt
  have Y1 := U2.below hb U2.lt
  have B1 := Lib.hid (below_join B0.out hb)
  have HSb := Lib.hid (HSa.out.below hb)
  have HTb := Lib.hid (HTa.out.below hb)
  clear hb U1 U2 HSa HTa B0
  cases r1 with
  | true =>
    go_wp2_with fail
    refine (known22_any _).mono ?_
    rintro e wz ⟨rfl, hbz⟩
    go_wp2
    go_ret
    exact ⟨rfl, below_join B1.out hbz⟩
  | false =>
    go_wp2_with (first | (refine wpl_load_row rfl _ (.tmp 2) rfl (g) (by go_simp) _ s.cells (0, 0) _ X1 Try.underlying34 rfl (by kernel_rfl) ?_) | (refine wpl_load_row rfl _ (.tmp 3) rfl (g + 1) (by go_simp) _ t.cells (0, 0) _ Y1 Try.underlying34 rfl (by kernel_rfl) ?_))
    refine (heavy_any t V1 HTb.out).mono ?_
    rintro e V2 ⟨r2, rfl, hb⟩
    have HX := Lib.hid (X1.below hb X1.lt)
    have HY := Lib.hid (Y1.below hb Y1.lt)
    have B2 := Lib.hid (below_join B1.out hb)
    have HS := Lib.hid (HSb.out.below hb)
    have HT := Lib.hid (HTb.out.below hb)
    clear hb X1 Y1 HSb HTb B1
    cases r2 with
    | true =>
      go_wp2_with fail
      refine (known22_any _).mono ?_
      rintro e wz ⟨rfl, hbz⟩
      go_wp2
      go_ret
      exact ⟨rfl, below_join B2.out hbz⟩
    | false =>
      obtain ⟨bv, hbv⟩ : ∃ bv : Bool, RepM.same s.x t.x = bv := ⟨_, rfl⟩
      have HBV := Lib.hid hbv
      clear hbv
      go_upto_region 3 with fail
      refine wp_named fun a0 ha0 => ?_
      have z2 : a0.tmps.getD 2 undef = (.pointer (some ⟨g, 0, none⟩)) := by rw [ha0.out]; rfl
      have z3 : a0.tmps.getD 3 undef = (.pointer (some ⟨g + 1, 0, none⟩)) := by rw [ha0.out]; rfl
      have hsz0 : a0.tmps.size = 36 := by rw [ha0.out]; rfl
      refine wp_region_invB _ (by kernel_rfl) (fun L a wv => PIF a0 [12, 13, 14, 15, 16, 17, 18, 19, 20, 21, 22, 23, 24, 25, 26, 27, 28, 29, 30, 31, 32, 33, 34, 35, 4] (ssP g s t bv) L a ∧ Below V2.heap.size V2 wv) (by kernel_rfl) ?_ ?_ ?_
      · exact ⟨PIF.start _ _ _, ⟨rfl, rfl, rfl, Nat.le_refl _, fun _ _ => rfl⟩⟩
      rotate_left
      · as_aux_lemma =>
        refine ⟨?_, ?_, ?_, ?_, ?_, ?_, ?_, ?_, ?_, ?_, ?_, ?_, ?_, ?_, ?_, ?_, ?_, ?_, ?_, ?_, ?_, ?_, ?_, ?_, ?_, trivial⟩
        · intro L a w1 hI hi hd
          obtain ⟨hp, hw⟩ := hI
          have t2 := hp.at_ 2 _ rfl z2
          have t2' := t2
          rw [Array.getD_eq_getD_getElem?] at t2'
          exact rstep_valW (wanted_none rfl _) (.agg s.cells) w1 (exec_load_row _ (.tmp 2) rfl (g) t2 _ _ _ (HX.out.below hw HX.out.lt) Try.underlying34 rfl (by kernel_rfl)) ⟨(hp.put 0 12 (.agg s.cells) (by simp [ssP]) (by simp [ssP]) rfl (by rw [hsz0]; exact (by decide : 12 < 36))), hw⟩
        · intro L a w1 hI hi hd
          obtain ⟨hp, hw⟩ := hI
          have t3 := hp.at_ 3 _ rfl z3
          have t3' := t3
          rw [Array.getD_eq_getD_getElem?] at t3'
          exact rstep_valW (wanted_none rfl _) (.agg t.cells) w1 (exec_load_row _ (.tmp 3) rfl (g + 1) t3 _ _ _ (HY.out.below hw HY.out.lt) Try.underlying34 rfl (by kernel_rfl)) ⟨(hp.put 1 13 (.agg t.cells) (by simp [ssP]) (by simp [ssP]) rfl (by rw [hsz0]; exact (by decide : 13 < 36))), hw⟩
        · intro L a w1 hI hi hd
          obtain ⟨hp, hw⟩ := hI
          simp [Region.binds] at hd
          have e0 : a.tmps.getD 12 undef = (.agg s.cells) := hp.pu (0, 12, (.agg s.cells)) (by simp [ssP]) (by simp [hd])
          have f0 : a.tmps[12]?.getD undef = (.agg s.cells) := by rw [← Array.getD_eq_getD_getElem?]; exact e0
          have e1 : a.tmps.getD 13 undef = (.agg t.cells) := hp.pu (1, 13, (.agg t.cells)) (by simp [ssP]) (by simp [hd])
          have f1 : a.tmps[13]?.getD undef = (.agg t.cells) := by rw [← Array.getD_eq_getD_getElem?]; exact e1
          refine rstep_callW (wanted_none rfl _) 20 #[(.agg s.cells), (.agg t.cells)] (by go_simp) ?_
          refine (sametell_any s t w1 (HS.out.below hw) (HT.out.below hw)).mono ?_
          rintro e w2 ⟨rfl, hb2⟩
          rw [HBV.out]
          exact ⟨(hp.put 2 14 (.bool bv) (by simp [ssP]) (by simp [ssP]) rfl (by rw [hsz0]; exact (by decide : 14 < 36))), hw.trans (hb2.mono hw.size)⟩
        · intro L a w1 hI hi hd
          obtain ⟨hp, hw⟩ := hI
          have t2 := hp.at_ 2 _ rfl z2
          have t2' := t2
          rw [Array.getD_eq_getD_getElem?] at t2'
          exact rstep_valW (wanted_none rfl _) (.agg s.cells) w1 (exec_load_row _ (.tmp 2) rfl (g) t2 _ _ _ (HX.out.below hw HX.out.lt) Try.underlying34 rfl (by kernel_rfl)) ⟨(hp.put 3 15 (.agg s.cells) (by simp [ssP]) (by simp [ssP]) rfl (by rw [hsz0]; exact (by decide : 15 < 36))), hw⟩
        · intro L a w1 hI hi hd
          obtain ⟨hp, hw⟩ := hI
          have t3 := hp.at_ 3 _ rfl z3
          have t3' := t3
          rw [Array.getD_eq_getD_getElem?] at t3'
          exact rstep_valW (wanted_none rfl _) (.agg t.cells) w1 (exec_load_row _ (.tmp 3) rfl (g + 1) t3 _ _ _ (HY.out.below hw HY.out.lt) Try.underlying34 rfl (by kernel_rfl)) ⟨(hp.put 4 16 (.agg t.cells) (by simp [ssP]) (by simp [ssP]) rfl (by rw [hsz0]; exact (by decide : 16 < 36))), hw⟩
        · intro L a w1 hI hi hd
          obtain ⟨hp, hw⟩ := hI
          simp [Region.binds] at hd
          have e3 : a.tmps.getD 15 undef = (.agg s.cells) := hp.pu (3, 15, (.agg s.cells)) (by simp [ssP]) (by simp [hd])
          have f3 : a.tmps[15]?.getD undef = (.agg s.cells) := by rw [← Array.getD_eq_getD_getElem?]; exact e3
          have e4 : a.tmps.getD 16 undef = (.agg t.cells) := hp.pu (4, 16, (.agg t.cells)) (by simp [ssP]) (by simp [hd])
          have f4 : a.tmps[16]?.getD undef = (.agg t.cells) := by rw [← Array.getD_eq_getD_getElem?]; exact e4
          refine rstep_callW (wanted_none rfl _) 12 #[(.agg s.cells), (.agg t.cells)] (by go_simp) ?_
          refine (refsametell_any s t w1 (HS.out.below hw) (HT.out.below hw)).mono ?_
          rintro e w2 ⟨rfl, hb2⟩
          rw [HBV.out]
          exact ⟨(hp.put 5 17 (.bool bv) (by simp [ssP]) (by simp [ssP]) rfl (by rw [hsz0]; exact (by decide : 17 < 36))), hw.trans (hb2.mono hw.size)⟩
        · intro L a w1 hI hi hd
          obtain ⟨hp, hw⟩ := hI
          simp [Region.binds] at hd
          have e2 : a.tmps.getD 14 undef = (.bool bv) := hp.pu (2, 14, (.bool bv)) (by simp [ssP]) (by simp [hd])
          have f2 : a.tmps[14]?.getD undef = (.bool bv) := by rw [← Array.getD_eq_getD_getElem?]; exact e2
          have e5 : a.tmps.getD 17 undef = (.bool bv) := hp.pu (5, 17, (.bool bv)) (by simp [ssP]) (by simp [hd])
          have f5 : a.tmps[17]?.getD undef = (.bool bv) := by rw [← Array.getD_eq_getD_getElem?]; exact e5
          exact rstep_valW (wanted_none rfl _) (.bool true) w1 (by go_simp) ⟨(hp.put 6 18 (.bool true) (by simp [ssP]) (by simp [ssP]) rfl (by rw [hsz0]; exact (by decide : 18 < 36))), hw⟩
        · intro L a w1 hI hi hd
          obtain ⟨hp, hw⟩ := hI
          simp [Region.binds] at hd
          have e6 : a.tmps.getD 18 undef = (.bool true) := hp.pu (6, 18, (.bool true)) (by simp [ssP]) (by simp [hd])
          have f6 : a.tmps[18]?.getD undef = (.bool true) := by rw [← Array.getD_eq_getD_getElem?]; exact e6
          exact rstep_valW (wanted_none rfl _) (.bool true) w1 (by go_simp) ⟨(hp.put 7 19 (.bool true) (by simp [ssP]) (by simp [ssP]) rfl (by rw [hsz0]; exact (by decide : 19 < 36))), hw⟩
        · intro L a w1 hI hi hd
          obtain ⟨hp, hw⟩ := hI
          simp [Region.binds] at hd
          have e7 : a.tmps.getD 19 undef = (.bool true) := hp.pu (7, 19, (.bool true)) (by simp [ssP]) (by simp [hd])
          have f7 : a.tmps[19]?.getD undef = (.bool true) := by rw [← Array.getD_eq_getD_getElem?]; exact e7
          have t3 := hp.at_ 3 _ rfl z3
          have t3' := t3
          rw [Array.getD_eq_getD_getElem?] at t3'
          exact rstep_valW (wanted_of 7 19 true rfl rfl e7) (.agg t.cells) w1 (exec_load_row _ (.tmp 3) rfl (g + 1) t3 _ _ _ (HY.out.below hw HY.out.lt) Try.underlying34 rfl (by kernel_rfl)) ⟨(hp.put 8 20 (.agg t.cells) (by simp [ssP]) (by simp [ssP]) rfl (by rw [hsz0]; exact (by decide : 20 < 36))), hw⟩
        · intro L a w1 hI hi hd
          obtain ⟨hp, hw⟩ := hI
          simp [Region.binds] at hd
          have e7 : a.tmps.getD 19 undef = (.bool true) := hp.pu (7, 19, (.bool true)) (by simp [ssP]) (by simp [hd])
          have f7 : a.tmps[19]?.getD undef = (.bool true) := by rw [← Array.getD_eq_getD_getElem?]; exact e7
          have t2 := hp.at_ 2 _ rfl z2
          have t2' := t2
          rw [Array.getD_eq_getD_getElem?] at t2'
          exact rstep_valW (wanted_of 7 19 true rfl rfl e7) (.agg s.cells) w1 (exec_load_row _ (.tmp 2) rfl (g) t2 _ _ _ (HX.out.below hw HX.out.lt) Try.underlying34 rfl (by kernel_rfl)) ⟨(hp.put 9 21 (.agg s.cells) (by simp [ssP]) (by simp [ssP]) rfl (by rw [hsz0]; exact (by decide : 21 < 36))), hw⟩
        · intro L a w1 hI hi hd
          obtain ⟨hp, hw⟩ := hI
          simp [Region.binds] at hd
          have e7 : a.tmps.getD 19 undef = (.bool true) := hp.pu (7, 19, (.bool true)) (by simp [ssP]) (by simp [hd])
          have f7 : a.tmps[19]?.getD undef = (.bool true) := by rw [← Array.getD_eq_getD_getElem?]; exact e7
          have e8 : a.tmps.getD 20 undef = (.agg t.cells) := hp.pu (8, 20, (.agg t.cells)) (by simp [ssP]) (by simp [hd])
          have f8 : a.tmps[20]?.getD undef = (.agg t.cells) := by rw [← Array.getD_eq_getD_getElem?]; exact e8
          have e9 : a.tmps.getD 21 undef = (.agg s.cells) := hp.pu (9, 21, (.agg s.cells)) (by simp [ssP]) (by simp [hd])
          have f9 : a.tmps[21]?.getD undef = (.agg s.cells) := by rw [← Array.getD_eq_getD_getElem?]; exact e9
          refine rstep_callW (wanted_of 7 19 true rfl rfl e7) 20 #[(.agg t.cells), (.agg s.cells)] (by go_simp) ?_
          refine (sametell_any t s w1 (HT.out.below hw) (HS.out.below hw)).mono ?_
          rintro e w2 ⟨rfl, hb2⟩
          rw [RepM.same_comm, HBV.out]
          exact ⟨(hp.put 10 22 (.bool bv) (by simp [ssP]) (by simp [ssP]) rfl (by rw [hsz0]; exact (by decide : 22 < 36))), hw.trans (hb2.mono hw.size)⟩
        · intro L a w1 hI hi hd
          obtain ⟨hp, hw⟩ := hI
          simp [Region.binds] at hd
          have e7 : a.tmps.getD 19 undef = (.bool true) := hp.pu (7, 19, (.bool true)) (by simp [ssP]) (by simp [hd])
          have f7 : a.tmps[19]?.getD undef = (.bool true) := by rw [← Array.getD_eq_getD_getElem?]; exact e7
          have t2 := hp.at_ 2 _ rfl z2
          have t2' := t2
          rw [Array.getD_eq_getD_getElem?] at t2'
          exact rstep_valW (wanted_of 7 19 true rfl rfl e7) (.agg s.cells) w1 (exec_load_row _ (.tmp 2) rfl (g) t2 _ _ _ (HX.out.below hw HX.out.lt) Try.underlying34 rfl (by kernel_rfl)) ⟨(hp.put 11 23 (.agg s.cells) (by simp [ssP]) (by simp [ssP]) rfl (by rw [hsz0]; exact (by decide : 23 < 36))), hw⟩
        · intro L a w1 hI hi hd
          obtain ⟨hp, hw⟩ := hI
          simp [Region.binds] at hd
          have e7 : a.tmps.getD 19 undef = (.bool true) := hp.pu (7, 19, (.bool true)) (by simp [ssP]) (by simp [hd])
          have f7 : a.tmps[19]?.getD undef = (.bool true) := by rw [← Array.getD_eq_getD_getElem?]; exact e7
          have t3 := hp.at_ 3 _ rfl z3
          have t3' := t3
          rw [Array.getD_eq_getD_getElem?] at t3'
          exact rstep_valW (wanted_of 7 19 true rfl rfl e7) (.agg t.cells) w1 (exec_load_row _ (.tmp 3) rfl (g + 1) t3 _ _ _ (HY.out.below hw HY.out.lt) Try.underlying34 rfl (by kernel_rfl)) ⟨(hp.put 12 24 (.agg t.cells) (by simp [ssP]) (by simp [ssP]) rfl (by rw [hsz0]; exact (by decide : 24 < 36))), hw⟩
        · intro L a w1 hI hi hd
          obtain ⟨hp, hw⟩ := hI
          simp [Region.binds] at hd
          have e7 : a.tmps.getD 19 undef = (.bool true) := hp.pu (7, 19, (.bool true)) (by simp [ssP]) (by simp [hd])
          have f7 : a.tmps[19]?.getD undef = (.bool true) := by rw [← Array.getD_eq_getD_getElem?]; exact e7
          have e11 : a.tmps.getD 23 undef = (.agg s.cells) := hp.pu (11, 23, (.agg s.cells)) (by simp [ssP]) (by simp [hd])
          have f11 : a.tmps[23]?.getD undef = (.agg s.cells) := by rw [← Array.getD_eq_getD_getElem?]; exact e11
          have e12 : a.tmps.getD 24 undef = (.agg t.cells) := hp.pu (12, 24, (.agg t.cells)) (by simp [ssP]) (by simp [hd])
          have f12 : a.tmps[24]?.getD undef = (.agg t.cells) := by rw [← Array.getD_eq_getD_getElem?]; exact e12
          refine rstep_callW (wanted_of 7 19 true rfl rfl e7) 12 #[(.agg s.cells), (.agg t.cells)] (by go_simp) ?_
          refine (refsametell_any s t w1 (HS.out.below hw) (HT.out.below hw)).mono ?_
          rintro e w2 ⟨rfl, hb2⟩
          rw [HBV.out]
          exact ⟨(hp.put 13 25 (.bool bv) (by simp [ssP]) (by simp [ssP]) rfl (by rw [hsz0]; exact (by decide : 25 < 36))), hw.trans (hb2.mono hw.size)⟩
        · intro L a w1 hI hi hd
          obtain ⟨hp, hw⟩ := hI
          simp [Region.binds] at hd
          have e7 : a.tmps.getD 19 undef = (.bool true) := hp.pu (7, 19, (.bool true)) (by simp [ssP]) (by simp [hd])
          have f7 : a.tmps[19]?.getD undef = (.bool true) := by rw [← Array.getD_eq_getD_getElem?]; exact e7
          have e10 : a.tmps.getD 22 undef = (.bool bv) := hp.pu (10, 22, (.bool bv)) (by simp [ssP]) (by simp [hd])
          have f10 : a.tmps[22]?.getD undef = (.bool bv) := by rw [← Array.getD_eq_getD_getElem?]; exact e10
          have e13 : a.tmps.getD 25 undef = (.bool bv) := hp.pu (13, 25, (.bool bv)) (by simp [ssP]) (by simp [hd])
          have f13 : a.tmps[25]?.getD undef = (.bool bv) := by rw [← Array.getD_eq_getD_getElem?]; exact e13
          exact rstep_valW (wanted_of 7 19 true rfl rfl e7) (.bool true) w1 (by go_simp) ⟨(hp.put 14 26 (.bool true) (by simp [ssP]) (by simp [ssP]) rfl (by rw [hsz0]; exact (by decide : 26 < 36))), hw⟩
        · intro L a w1 hI hi hd
          obtain ⟨hp, hw⟩ := hI
          simp [Region.binds] at hd
          have e7 : a.tmps.getD 19 undef = (.bool true) := hp.pu (7, 19, (.bool true)) (by simp [ssP]) (by simp [hd])
          have f7 : a.tmps[19]?.getD undef = (.bool true) := by rw [← Array.getD_eq_getD_getElem?]; exact e7
          have e14 : a.tmps.getD 26 undef = (.bool true) := hp.pu (14, 26, (.bool true)) (by simp [ssP]) (by simp [hd])
          have f14 : a.tmps[26]?.getD undef = (.bool true) := by rw [← Array.getD_eq_getD_getElem?]; exact e14
          exact rstep_valW (wanted_none rfl _) (.bool true) w1 (by go_simp) ⟨(hp.put 15 27 (.bool true) (by simp [ssP]) (by simp [ssP]) rfl (by rw [hsz0]; exact (by decide : 27 < 36))), hw⟩
        · intro L a w1 hI hi hd
          obtain ⟨hp, hw⟩ := hI
          simp [Region.binds] at hd
          have e15 : a.tmps.getD 27 undef = (.bool true) := hp.pu (15, 27, (.bool true)) (by simp [ssP]) (by simp [hd])
          have f15 : a.tmps[27]?.getD undef = (.bool true) := by rw [← Array.getD_eq_getD_getElem?]; exact e15
          exact rstep_valW (wanted_none rfl _) (.bool true) w1 (by go_simp) ⟨(hp.put 16 28 (.bool true) (by simp [ssP]) (by simp [ssP]) rfl (by rw [hsz0]; exact (by decide : 28 < 36))), hw⟩
        · intro L a w1 hI hi hd
          obtain ⟨hp, hw⟩ := hI
          simp [Region.binds] at hd
          have e16 : a.tmps.getD 28 undef = (.bool true) := hp.pu (16, 28, (.bool true)) (by simp [ssP]) (by simp [hd])
          have f16 : a.tmps[28]?.getD undef = (.bool true) := by rw [← Array.getD_eq_getD_getElem?]; exact e16
          have t2 := hp.at_ 2 _ rfl z2
          have t2' := t2
          rw [Array.getD_eq_getD_getElem?] at t2'
          exact rstep_valW (wanted_of 16 28 true rfl rfl e16) (.agg s.cells) w1 (exec_load_row _ (.tmp 2) rfl (g) t2 _ _ _ (HX.out.below hw HX.out.lt) Try.underlying34 rfl (by kernel_rfl)) ⟨(hp.put 17 29 (.agg s.cells) (by simp [ssP]) (by simp [ssP]) rfl (by rw [hsz0]; exact (by decide : 29 < 36))), hw⟩
        · intro L a w1 hI hi hd
          obtain ⟨hp, hw⟩ := hI
          simp [Region.binds] at hd
          have e16 : a.tmps.getD 28 undef = (.bool true) := hp.pu (16, 28, (.bool true)) (by simp [ssP]) (by simp [hd])
          have f16 : a.tmps[28]?.getD undef = (.bool true) := by rw [← Array.getD_eq_getD_getElem?]; exact e16
          have t2 := hp.at_ 2 _ rfl z2
          have t2' := t2
          rw [Array.getD_eq_getD_getElem?] at t2'
          exact rstep_valW (wanted_of 16 28 true rfl rfl e16) (.agg s.cells) w1 (exec_load_row _ (.tmp 2) rfl (g) t2 _ _ _ (HX.out.below hw HX.out.lt) Try.underlying34 rfl (by kernel_rfl)) ⟨(hp.put 18 30 (.agg s.cells) (by simp [ssP]) (by simp [ssP]) rfl (by rw [hsz0]; exact (by decide : 30 < 36))), hw⟩
        · intro L a w1 hI hi hd
          obtain ⟨hp, hw⟩ := hI
          simp [Region.binds] at hd
          have e16 : a.tmps.getD 28 undef = (.bool true) := hp.pu (16, 28, (.bool true)) (by simp [ssP]) (by simp [hd])
          have f16 : a.tmps[28]?.getD undef = (.bool true) := by rw [← Array.getD_eq_getD_getElem?]; exact e16
          have e17 : a.tmps.getD 29 undef = (.agg s.cells) := hp.pu (17, 29, (.agg s.cells)) (by simp [ssP]) (by simp [hd])
          have f17 : a.tmps[29]?.getD undef = (.agg s.cells) := by rw [← Array.getD_eq_getD_getElem?]; exact e17
          have e18 : a.tmps.getD 30 undef = (.agg s.cells) := hp.pu (18, 30, (.agg s.cells)) (by simp [ssP]) (by simp [hd])
          have f18 : a.tmps[30]?.getD undef = (.agg s.cells) := by rw [← Array.getD_eq_getD_getElem?]; exact e18
          refine rstep_callW (wanted_of 16 28 true rfl rfl e16) 20 #[(.agg s.cells), (.agg s.cells)] (by go_simp) ?_
          refine (sametell_any s s w1 (HS.out.below hw) (HS.out.below hw)).mono ?_
          rintro e w2 ⟨rfl, hb2⟩
          rw [RepM.same_refl]
          exact ⟨(hp.put 19 31 (.bool true) (by simp [ssP]) (by simp [ssP]) rfl (by rw [hsz0]; exact (by decide : 31 < 36))), hw.trans (hb2.mono hw.size)⟩
        · intro L a w1 hI hi hd
          obtain ⟨hp, hw⟩ := hI
          simp [Region.binds] at hd
          have e16 : a.tmps.getD 28 undef = (.bool true) := hp.pu (16, 28, (.bool true)) (by simp [ssP]) (by simp [hd])
          have f16 : a.tmps[28]?.getD undef = (.bool true) := by rw [← Array.getD_eq_getD_getElem?]; exact e16
          have e19 : a.tmps.getD 31 undef = (.bool true) := hp.pu (19, 31, (.bool true)) (by simp [ssP]) (by simp [hd])
          have f19 : a.tmps[31]?.getD undef = (.bool true) := by rw [← Array.getD_eq_getD_getElem?]; exact e19
          exact rstep_valW (wanted_none rfl _) (.bool true) w1 (by go_simp) ⟨(hp.put 20 32 (.bool true) (by simp [ssP]) (by simp [ssP]) rfl (by rw [hsz0]; exact (by decide : 32 < 36))), hw⟩
        · intro L a w1 hI hi hd
          obtain ⟨hp, hw⟩ := hI
          simp [Region.binds] at hd
          have e20 : a.tmps.getD 32 undef = (.bool true) := hp.pu (20, 32, (.bool true)) (by simp [ssP]) (by simp [hd])
          have f20 : a.tmps[32]?.getD undef = (.bool true) := by rw [← Array.getD_eq_getD_getElem?]; exact e20
          exact rstep_valW (wanted_none rfl _) (.bool true) w1 (by go_simp) ⟨(hp.put 21 33 (.bool true) (by simp [ssP]) (by simp [ssP]) rfl (by rw [hsz0]; exact (by decide : 33 < 36))), hw⟩
        · intro L a w1 hI hi hd
          obtain ⟨hp, hw⟩ := hI
          simp [Region.binds] at hd
          have e21 : a.tmps.getD 33 undef = (.bool true) := hp.pu (21, 33, (.bool true)) (by simp [ssP]) (by simp [hd])
          have f21 : a.tmps[33]?.getD undef = (.bool true) := by rw [← Array.getD_eq_getD_getElem?]; exact e21
          refine rstep_callW (wanted_of 21 33 true rfl rfl e21) 9 #[] (by go_simp) ?_
          refine (known22_any w1).mono ?_
          rintro e w2 ⟨rfl, hb2⟩
          exact ⟨(hp.put 22 34 (.bool true) (by simp [ssP]) (by simp [ssP]) rfl (by rw [hsz0]; exact (by decide : 34 < 36))), hw.trans (hb2.mono hw.size)⟩
        · intro L a w1 hI hi hd
          obtain ⟨hp, hw⟩ := hI
          simp [Region.binds] at hd
          have e21 : a.tmps.getD 33 undef = (.bool true) := hp.pu (21, 33, (.bool true)) (by simp [ssP]) (by simp [hd])
          have f21 : a.tmps[33]?.getD undef = (.bool true) := by rw [← Array.getD_eq_getD_getElem?]; exact e21
          have e22 : a.tmps.getD 34 undef = (.bool true) := hp.pu (22, 34, (.bool true)) (by simp [ssP]) (by simp [hd])
          have f22 : a.tmps[34]?.getD undef = (.bool true) := by rw [← Array.getD_eq_getD_getElem?]; exact e22
          exact rstep_valW (wanted_none rfl _) (.bool true) w1 (by go_simp) ⟨(hp.put 23 35 (.bool true) (by simp [ssP]) (by simp [ssP]) rfl (by rw [hsz0]; exact (by decide : 35 < 36))), hw⟩
        · intro L a w1 hI hi hd
          obtain ⟨hp, hw⟩ := hI
          simp [Region.binds] at hd
          have e23 : a.tmps.getD 35 undef = (.bool true) := hp.pu (23, 35, (.bool true)) (by simp [ssP]) (by simp [hd])
          have f23 : a.tmps[35]?.getD undef = (.bool true) := by rw [← Array.getD_eq_getD_getElem?]; exact e23
          exact rstep_valW (wanted_none rfl _) (.bool true) w1 (by go_simp) ⟨(hp.put 24 4 (.bool true) (by simp [ssP]) (by simp [ssP]) rfl (by rw [hsz0]; exact (by decide : 4 < 36))), hw⟩
      rintro L a W0 ⟨hp, hw⟩ hL
      have e24 : a.tmps.getD 4 undef = (.bool true) := hp.pu (24, 4, _) (by simp [ssP]) (hL 24 (by simp))
      have B3 := Lib.hid (below_join B2.out hw)
      clear hw
      rw [hp.eq]
      refine of_assigns (P := Try.prog) _ _ _ _ ?_
      rw [ha0.out]
      simp only [asgs, List.map, e24]
      generalize a.tmps.getD 12 undef = u12
      generalize a.tmps.getD 13 undef = u13
      generalize a.tmps.getD 14 undef = u14
      generalize a.tmps.getD 15 undef = u15
      generalize a.tmps.getD 16 undef = u16
      generalize a.tmps.getD 17 undef = u17
      generalize a.tmps.getD 18 undef = u18
      generalize a.tmps.getD 19 undef = u19
      generalize a.tmps.getD 20 undef = u20
      generalize a.tmps.getD 21 undef = u21
      generalize a.tmps.getD 22 undef = u22
      generalize a.tmps.getD 23 undef = u23
      generalize a.tmps.getD 24 undef = u24
      generalize a.tmps.getD 25 undef = u25
      generalize a.tmps.getD 26 undef = u26
      generalize a.tmps.getD 27 undef = u27
      generalize a.tmps.getD 28 undef = u28
      generalize a.tmps.getD 29 undef = u29
      generalize a.tmps.getD 30 undef = u30
      generalize a.tmps.getD 31 undef = u31
      generalize a.tmps.getD 32 undef = u32
      generalize a.tmps.getD 33 undef = u33
      generalize a.tmps.getD 34 undef = u34
      generalize a.tmps.getD 35 undef = u35
      clear hp hL hsz0 e24 z2 z3
      clear ha0
      go_wp2
      go_ret
      exact ⟨rfl, B3.out⟩
end Go.Proofs.Ytaadfalklddhcaa
/-! part -/
namespace Go.Proofs.Ytaadfalklddhcaa.stmtSame
open Go.ChangeShapes Go.WideShapes Go.ChangeAt Go.RowKit
set_option linter.unusedVariables false
set_option maxRecDepth 100000 in
theorem lifted (os : Os) (started : os.Started) (H : Type) (enc : TypeId × Value → H) :
    ReturnsInHanded {} Try.checked os 5 .any (Rows.stmtSameSpec.pre6 enc Try.prog Try.f5 Rows.stmtSameRow.domain false) (Rows.stmtSameSpec.post enc Try.prog Try.f5 false true false false) := by
  refine returnsInHanded_of_change_sized (C := Try.checked) own started (by kernel_rfl) Try.func5
    (ChangeSpec.witness6 (enc := enc) (C := Try.checked) false ⟨#[], #[.agg #[.int .i64 0, .int .i64 0, .int .i64 0, .int .i64 0, .int .u64 0, .slice none 0 0, .slice none 0 0, .slice none 0 0, .slice none 0 0], .agg #[.int .i64 0, .int .i64 0, .int .i64 0, .int .i64 0, .int .u64 0, .slice none 0 0, .slice none 0 0, .slice none 0 0, .slice none 0 0]], []⟩ 8 (by kernel_rfl) (by kernel_rfl) (by kernel_rfl) (by kernel_rfl)) ?_
  intro W base args ds gs before hval0 hW _ hsz0 _
  have hsz : (DataW.weightsEach Try.prog (Try.f5.params.toList ++ Rows.stmtSameSpec.plain.varTypes Try.prog) (ds ++ gs)).all (· ≤ reachBytes) = true := hsz0
  clear hsz0
  have hval : ∀ (j : Nat) t v, Try.f5.params[j]? = some t → args[j]? = some v → Value.okWide Try.prog W .any base t v := hval0
  have hW' := hW
  obtain ⟨p, q, hA0, hV, rfl, hfz, hnd⟩ := hW
  have hA : DataW.TrodAll enc Try.prog W 0 (fun _ => true) true Try.f5.params.toList args.toList ds p := hA0
  rw [Try.params5] at hA hval hsz
  obtain ⟨v0, vs0, d0, ds0, p0, q0, hargs, rfl, rfl, h0, r_0⟩ := trodAll_cons hA
  obtain ⟨v1, vs1, d1, ds1, p1, q1, rfl, rfl, rfl, h1, r_1⟩ := trodAll_cons r_0
  obtain ⟨rfl, rfl, rfl⟩ := trodAll_nil r_1
  obtain rfl : args = #[v0, v1] := by cases args; simp_all
  obtain ⟨rfl, rfl⟩ := trodVars_none hV
  have k0 := h0
  have lt0 : ∀ x ∈ p0, x.block < W.heap.size := by obtain ⟨m, hm⟩ := k0; exact DataW.trod_lt m _ _ _ hm
  obtain ⟨s0, rfl, hs0⟩ := read_reply (hval 0 34 v0 rfl rfl) h0
  have k1 := h1
  have lt1 : ∀ x ∈ p1, x.block < W.heap.size := by obtain ⟨m, hm⟩ := k1; exact DataW.trod_lt m _ _ _ hm
  obtain ⟨s1, rfl, hs1⟩ := read_reply (hval 1 34 v1 rfl rfl) h1
  clear hA0 hval0
  refine (stmtSame_walk s0 s1 W hs0 hs1).mono fun e W' ⟨he, bel⟩ => ?_
  subst he
  exact ⟨_, rfl, _, _, _, [], _, [], hW', trodAll_mk1 (shut_bool Try.underlying4 _), (trodAll_cons_mk (Below.trod laidOut (by kernel_rfl) (of_decide_eq_true (by kernel_rfl)) k0 bel lt0) (trodAll_cons_mk (Below.trod laidOut (by kernel_rfl) (of_decide_eq_true (by kernel_rfl)) k1 bel lt1) trodAll_mk0)), rfl, bel.frame _, fun h => by cases h⟩

theorem over : Rows.stmtSameRow.holds Try.pinned (OpenSpec.ofChange Rows.stmtSameSpec) :=
  OpenClaim.holds_of_wide 5 Try.f5 rfl rfl rfl rfl rfl rfl rfl ⟨rfl, rfl, rfl, rfl, rfl⟩ rfl rfl rfl rfl rfl (by kernel_rfl) Try.func5 (by kernel_rfl)
    (of_decide_eq_true (by kernel_rfl)) (by unfold Func.isWrapper; rw [if_neg (of_decide_eq_false (by kernel_rfl))]; exact ⟨rfl, rfl⟩)
    (fun os started H enc _ => lifted os started H enc)

/-- The statement. -/
theorem proved : Rows.StmtSameSaid := over
#print axioms proved
end Go.Proofs.Ytaadfalklddhcaa.stmtSame
