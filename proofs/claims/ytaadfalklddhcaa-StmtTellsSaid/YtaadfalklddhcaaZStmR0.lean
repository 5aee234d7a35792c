/-
  Replies, as plain words and in memory; whether two lists of records, or of hits, are alike.
  Conditions: the lists lie in memory.
-/
import Derived.Test.YtaadfalklddhcaaZStmM
import Derived.Test.YtaadfalklddhcaaZEj
import Derived.Test.YtaadfalklddhcaaZItemF
import Derived.Laws.StructEq
import Derived.BigQuiet
import Derived.BigRegion
import Derived.Lib.QuietBelow
import Derived.Deep.Cut
import Derived.Deep.CutBlock
import Derived.Deep.RegionHeld3
import Derived.Deep.RegionHeldLaw
import Derived.Lib.BufferOwn
namespace Go.Proofs.Ytaadfalklddhcaa
open Go.RowKit Go.Sort Go.Lib
set_option linter.unusedVariables false
set_option linter.unusedSimpArgs false
instance : DecidableEq Itm := fun a b => decidable_of_iff _ (ItemM.same_iff a b)
theorem itm_same (a b : Itm) : ItemM.same a b = decide (a = b) := by
  by_cases h : a = b
  · rw [decide_eq_true h]; exact (ItemM.same_iff a b).2 h
  · rw [decide_eq_false h]
    cases h2 : ItemM.same a b with
    | false => rfl
    | true => exact absurd ((ItemM.same_iff a b).1 h2) h
/-- A reply. -/
structure Rp where
  kind : Int
  mark : Int
  errno : Int
  place : Int
  it : Itm
  its : List Itm
  hits : List (Nat × Int)
/-- Its numbers are in range. -/
structure Rp.Ok (x : Rp) : Prop where
  hkind : -9223372036854775808 ≤ x.kind ∧ x.kind < 9223372036854775808
  hmark : -9223372036854775808 ≤ x.mark ∧ x.mark < 9223372036854775808
  herr : -9223372036854775808 ≤ x.errno ∧ x.errno < 9223372036854775808
  hplace : -9223372036854775808 ≤ x.place ∧ x.place < 9223372036854775808
  hit : x.it.Ok
  hits_ : ∀ i ∈ x.its, i.Ok
  hh : ∀ h ∈ x.hits, h.1 < 18446744073709551616 ∧ -9223372036854775808 ≤ h.2 ∧ h.2 < 9223372036854775808
namespace RepM
def same (a b : Rp) : Bool := decide (a.kind = b.kind) && (decide (a.mark = b.mark) && (decide (a.errno = b.errno) && (decide (a.place = b.place) && (ItemM.same a.it b.it && (decide (a.its = b.its) && decide (a.hits = b.hits))))))
theorem same_iff (a b : Rp) : same a b = true ↔ a = b := by
  cases a; cases b
  simp only [same, Bool.and_eq_true, decide_eq_true_eq, ItemM.same_iff, Rp.mk.injEq]
theorem same_refl (a : Rp) : same a a = true := (same_iff a a).2 rfl
theorem same_comm (a b : Rp) : same a b = same b a := by
  cases h : same b a with
  | true => rw [(same_iff b a).1 h]; exact same_refl _
  | false =>
    cases h2 : same a b with
    | false => rfl
    | true => rw [(same_iff a b).1 h2, same_refl] at h; cases h
end RepM
/-! ### Lists in memory -/
def hitC (h : Nat × Int) : List Value := [.int .u64 (h.1 : Int), .int .i64 h.2]
theorem itvs_get : ∀ (l : List Itv) (k : Nat) (s : Itv), l[k]? = some s → (l.flatMap Itv.cells)[k * 3]? = some (.int .u64 (s.x.key : Int)) ∧ (l.flatMap Itv.cells)[k * 3 + 1]? = some (.slice s.A s.x.vec.length s.c) ∧ (l.flatMap Itv.cells)[k * 3 + 2]? = some (.slice s.A2 s.x.note.length s.c2)
  | a :: l, 0, c, h => by
    simp at h; subst h; exact ⟨rfl, rfl, rfl⟩
  | a :: l, k + 1, c, h => by
    have ih := itvs_get l k c (by simpa using h)
    rw [List.flatMap_cons, show (k + 1) * 3 = k * 3 + 3 by omega]
    refine ⟨?_, ?_, ?_⟩
    · rw [List.getElem?_append_right (by simp [Itv.cells])]; simpa [Itv.cells] using ih.1
    · rw [List.getElem?_append_right (by simp [Itv.cells])]; simpa [Itv.cells, show k * 3 + 3 + 1 - 3 = k * 3 + 1 by omega] using ih.2.1
    · rw [List.getElem?_append_right (by simp [Itv.cells])]; simpa [Itv.cells, show k * 3 + 3 + 2 - 3 = k * 3 + 2 by omega] using ih.2.2
  | [], _, _, h => by simp at h
theorem hits_get : ∀ (l : List (Nat × Int)) (k : Nat) (c : Nat × Int), l[k]? = some c → (l.flatMap hitC)[k * 2]? = some (.int .u64 (c.1 : Int)) ∧ (l.flatMap hitC)[k * 2 + 1]? = some (.int .i64 c.2)
  | a :: l, 0, c, h => by
    simp at h; subst h; exact ⟨rfl, rfl⟩
  | a :: l, k + 1, c, h => by
    have ih := hits_get l k c (by simpa using h)
    rw [List.flatMap_cons, show (k + 1) * 2 = k * 2 + 2 by omega]
    refine ⟨?_, ?_⟩
    · rw [List.getElem?_append_right (by simp [hitC])]; simpa [hitC] using ih.1
    · rw [List.getElem?_append_right (by simp [hitC])]; simpa [hitC, show k * 2 + 2 + 1 - 2 = k * 2 + 1 by omega] using ih.2
  | [], _, _, h => by simp at h
theorem row_itv {w : World} {A : Option Addr} {l : List Itv} (h : Row w A (l.flatMap Itv.cells)) {k : Nat} {s : Itv} (hs : l[k]? = some s) :
    ∃ b o, A = some ⟨b, o, none⟩ ∧ w.cell? ⟨b, o + k * 3, none⟩ = some (.int .u64 (s.x.key : Int)) ∧ w.cell? ⟨b, o + k * 3 + 1, none⟩ = some (.slice s.A s.x.vec.length s.c) ∧ w.cell? ⟨b, o + k * 3 + 2, none⟩ = some (.slice s.A2 s.x.note.length s.c2) := by
  obtain ⟨g1, g2, g3⟩ := itvs_get l k s hs
  rcases h with h | ⟨b, o, e, hc⟩
  · rw [h] at g1; simp at g1
  · exact ⟨b, o, e, hc _ _ g1, by rw [Nat.add_assoc]; exact hc _ _ g2, by rw [Nat.add_assoc]; exact hc _ _ g3⟩
theorem row_hit {w : World} {A : Option Addr} {l : List (Nat × Int)} (h : Row w A (l.flatMap hitC)) {k : Nat} {c : Nat × Int} (hs : l[k]? = some c) :
    ∃ b o, A = some ⟨b, o, none⟩ ∧ w.cell? ⟨b, o + k * 2, none⟩ = some (.int .u64 (c.1 : Int)) ∧ w.cell? ⟨b, o + k * 2 + 1, none⟩ = some (.int .i64 c.2) := by
  obtain ⟨g1, g2⟩ := hits_get l k c hs
  rcases h with h | ⟨b, o, e, hc⟩
  · rw [h] at g1; simp at g1
  · exact ⟨b, o, e, hc _ _ g1, by rw [Nat.add_assoc]; exact hc _ _ g2⟩
theorem Itv.At.below {s : Itv} {w w' : World} (h : s.At w) (hb : Below w.heap.size w w') : s.At w' :=
  ⟨h.r1.below hb, h.r2.below hb, h.ok, h.l1, h.l2, h.m1, h.m2⟩
theorem hit_eq (a b d e : Int) (w : World) : (Op.equalIn 10000 67 (.agg #[.int .u64 a, .int .i64 b]) (.agg #[.int .u64 d, .int .i64 e])).run Try.prog w = .ok (a == d && b == e) w := by
  have u3 := Try.underlying27
  have a3 := Try.isAgg27
  have z3 := Try.sizeOf27
  have u4 := Try.underlying2
  have a4 := Try.isAgg2
  have z4 := Try.sizeOf2
  have hS : Try.prog.underlying 67 = some (.struct (Try.prog.fieldsOf 67)) := by kernel_rfl
  have hp : Try.prog.stoodInHeld 67 = false := by kernel_rfl
  rw [show (10000 : Nat) = 9999 + 1 from rfl, run_equalIn_agg w 9999 67 _ _ hS hp]
  simp only [Program.fieldsOf, Try.underlying67]
  go_simp
  by_cases h1 : a = d <;> by_cases h2 : b = e <;> simp [h1, h2]
@[go_sem high] theorem hit_same (a b : Nat × Int) (w : World) : (Op.equalIn 10000 67 (.agg #[.int .u64 (a.1 : Int), .int .i64 a.2]) (.agg #[.int .u64 (b.1 : Int), .int .i64 b.2])).run Try.prog w = .ok (decide (a = b)) w := by
  rw [hit_eq]
  obtain ⟨a1, a2⟩ := a
  obtain ⟨b1, b2⟩ := b
  congr 1
  by_cases h1 : a1 = b1 <;> by_cases h2 : a2 = b2 <;> simp [h1, h2, Int.ofNat_inj]
theorem list_eq {α : Type} {l m : List α} {n : Nat} (h1 : l.length = n) (h2 : m.length = n) (h : ∀ j, j < n → l[j]? = m[j]?) : l = m := by
  refine List.ext_getElem? fun j => ?_
  by_cases hj : j < n
  · exact h j hj
  · rw [List.getElem?_eq_none (by omega), List.getElem?_eq_none (by omega)]
theorem BoolP.yes {p : Prop} [Decidable p] {w w' : World} (h : p) (hb : Below w.heap.size w w') : BoolP (decide p) w (.returned (.bool true)) w' := ⟨by rw [decide_eq_true h], hb⟩
theorem BoolP.no {p : Prop} [Decidable p] {w w' : World} (h : ¬ p) (hb : Below w.heap.size w w') : BoolP (decide p) w (.returned (.bool false)) w' := ⟨by rw [decide_eq_false h], hb⟩
set_option maxRecDepth 100000 in
theorem equalH_any (A B : Option Addr) (n n2 c c2 : Nat) (l m : List (Nat × Int)) (w : World) (hr : Row w A (l.flatMap hitC)) (hl : l.length = n) (hr2 : Row w B (m.flatMap hitC)) (hl2 : m.length = n2) (hm : n ≤ 9223372036854775807) :
    Calls Try.prog 75 #[.slice A n c, .slice B n2 c2] w (BoolP (decide (l = m)) w) := by
  have HL := Lib.hid hl
  have HL2 := Lib.hid hl2
  clear hl hl2
  by_cases hd : n = n2
  · subst hd
    go_enter Try.func75, Try.ntmps75
    go_wp2
    go_loopw [5, 13] (fun _ i wr => ∃ k : Nat, i = .int .i64 (k : Int) ∧ k ≤ n ∧ Below w.heap.size w wr ∧ Hid (∀ j, j < k → l[j]? = m[j]?)) (fun _ i _ => n - (RowKit.intOf i).toNat)
    case atStart => exact ⟨0, rfl, Nat.zero_le _, Below.refl _ _, Lib.hid fun j hj => by omega⟩
    case round =>
      obtain ⟨k, rfl, hk, hbel, HA⟩ := hrel
      by_cases hlt : k < n
      · obtain ⟨s, hs⟩ : ∃ s, l[k]? = some s := ⟨_, List.getElem?_eq_getElem (by rw [HL.out]; exact hlt)⟩
        obtain ⟨t, ht⟩ : ∃ t, m[k]? = some t := ⟨_, List.getElem?_eq_getElem (by rw [HL2.out]; exact hlt)⟩
        obtain ⟨b, o, rfl, e1, e2⟩ := row_hit (hr.below hbel) hs
        obtain ⟨b2, o2, rfl, f1, f2⟩ := row_hit (hr2.below hbel) ht
        have hdn : ∀ n, Below wr.heap.size wr (wr.drewN n) := fun n => ⟨rfl, rfl, rfl, Nat.le_refl _, fun _ _ => rfl⟩
        have HDN := Lib.hid hdn
        clear hdn
        have HS := Lib.hid hs
        have HT := Lib.hid ht
        clear hs ht
        go_upto_region 6 with fail
        by_cases hst : s = t
        · go_quiet (fail)
          have hbel2 := below_step hbel (HDN.out nq) (Nat.le_refl _)
          go_wp2
          go_roundw
          case rel =>
            refine ⟨k + 1, by go_num, by omega, hbel2, Lib.hid fun j hj => ?_⟩
            by_cases e : j = k
            · subst e; rw [HS.out, HT.out, hst]
            · exact HA.out j (by omega)
          case measure => simp [RowKit.intOf]; omega
        · go_quiet (fail)
          have hbel2 := below_step hbel (HDN.out nq) (Nat.le_refl _)
          go_wp2
          go_ret
          exact BoolP.no (fun h => hst (by have h1 := HS.out; rw [h, HT.out] at h1; injection h1 with h1; exact h1.symm)) hbel2
      · obtain rfl : k = n := by omega
        go_wp2
        go_ret
        exact BoolP.yes (list_eq HL.out HL2.out HA.out) hbel
  · go_enter Try.func75, Try.ntmps75
    go_wp2
    go_ret
    exact BoolP.no (fun h => hd (by rw [← HL.out, ← HL2.out, h])) (Below.refl _ _)
set_option maxRecDepth 100000 in
theorem refsameH_any (A B : Option Addr) (n n2 c c2 : Nat) (l m : List (Nat × Int)) (w : World) (hr : Row w A (l.flatMap hitC)) (hl : l.length = n) (hr2 : Row w B (m.flatMap hitC)) (hl2 : m.length = n2) (hm : n ≤ 9223372036854775807) :
    Calls Try.prog 45 #[.slice A n c, .slice B n2 c2] w (BoolP (decide (l = m)) w) := by
  have HL := Lib.hid hl
  have HL2 := Lib.hid hl2
  clear hl hl2
  by_cases hd : n = n2
  · subst hd
    go_enter Try.func45, Try.ntmps45
    go_wp2
    go_loopw [5] (fun i wr => ∃ k : Nat, i = .int .i64 (k : Int) ∧ k ≤ n ∧ Below w.heap.size w wr ∧ Hid (∀ j, j < k → l[j]? = m[j]?)) (fun i _ => n - (RowKit.intOf i).toNat)
    case atStart => exact ⟨0, rfl, Nat.zero_le _, Below.refl _ _, Lib.hid fun j hj => by omega⟩
    case round =>
      obtain ⟨k, rfl, hk, hbel, HA⟩ := hrel
      by_cases hlt : k < n
      · obtain ⟨s, hs⟩ : ∃ s, l[k]? = some s := ⟨_, List.getElem?_eq_getElem (by rw [HL.out]; exact hlt)⟩
        obtain ⟨t, ht⟩ : ∃ t, m[k]? = some t := ⟨_, List.getElem?_eq_getElem (by rw [HL2.out]; exact hlt)⟩
        obtain ⟨b, o, rfl, e1, e2⟩ := row_hit (hr.below hbel) hs
        obtain ⟨b2, o2, rfl, f1, f2⟩ := row_hit (hr2.below hbel) ht
        have hdn : ∀ n, Below wr.heap.size wr (wr.drewN n) := fun n => ⟨rfl, rfl, rfl, Nat.le_refl _, fun _ _ => rfl⟩
        have HDN := Lib.hid hdn
        clear hdn
        have HS := Lib.hid hs
        have HT := Lib.hid ht
        clear hs ht
        go_upto_region 6 with fail
        by_cases hst : s = t
        · go_quiet (fail)
          have hbel2 := below_step hbel (HDN.out nq) (Nat.le_refl _)
          go_wp2
          go_roundw
          case rel =>
            refine ⟨k + 1, by go_num, by omega, hbel2, Lib.hid fun j hj => ?_⟩
            by_cases e : j = k
            · subst e; rw [HS.out, HT.out, hst]
            · exact HA.out j (by omega)
          case measure => simp [RowKit.intOf]; omega
        · go_quiet (fail)
          have hbel2 := below_step hbel (HDN.out nq) (Nat.le_refl _)
          go_wp2
          go_ret
          exact BoolP.no (fun h => hst (by have h1 := HS.out; rw [h, HT.out] at h1; injection h1 with h1; exact h1.symm)) hbel2
      · obtain rfl : k = n := by omega
        go_wp2
        go_ret
        exact BoolP.yes (list_eq HL.out HL2.out HA.out) hbel
  · go_enter Try.func45, Try.ntmps45
    go_wp2
    go_ret
    exact BoolP.no (fun h => hd (by rw [← HL.out, ← HL2.out, h])) (Below.refl _ _)
end Go.Proofs.Ytaadfalklddhcaa
