/-
  A record of the log in memory; the library's comparisons.
  Conditions: the lists lie in memory.
-/
import Derived.Test.YtpgmhjjdnanlgaaLogM
import Derived.Test.YtpgmhjjdnanlgaaMem2
import Derived.Laws.StructEq
import Derived.BigQuiet
import Derived.BigRegion
import Derived.Lib.QuietBelow
import Derived.Deep.Cut
import Derived.Deep.CutBlock
import Derived.Deep.RegionHeld3
import Derived.Deep.RegionHeldLaw
import Derived.Lib.BufferOwn
namespace Go.Proofs.Ytpgmhjjdnanlgaa
open Go.RowKit Go.Sort Go.Lib
set_option linter.unusedVariables false
set_option linter.unusedSimpArgs false
theorem str_len (w : World) (A : Option Addr) (n c : Nat) (l : List UInt8) (hn : l.length = n) (hr : Row w A (bs l)) : (convert 22 9 (.slice A n c)).run Try.prog w = .ok (.string (str l)) w := by
  subst hn; exact run_str w c hr
theorem str_toList (l : List UInt8) : (str l).toList = l := by rw [ByteArray.toList_eq]; rfl
theorem str_beq (l m : List UInt8) : ((str l).toList == (str m).toList) = decide (l = m) := by
  rw [str_toList, str_toList]
  by_cases h : l = m
  · subst h; simp
  · rw [decide_eq_false h]; exact beq_eq_false_iff_ne.2 h
theorem list_eq {α : Type} {l m : List α} {n : Nat} (h1 : l.length = n) (h2 : m.length = n) (h : ∀ j, j < n → l[j]? = m[j]?) : l = m := by
  refine List.ext_getElem? fun j => ?_
  by_cases hj : j < n
  · exact h j hj
  · rw [List.getElem?_eq_none (by omega), List.getElem?_eq_none (by omega)]
/-- A record's slices. -/
structure Lsl where
  oA : Option Addr
  on : Nat
  oc : Nat
  nA : Option Addr
  nn : Nat
  nc : Nat
  uA : Option Addr
  un : Nat
  uc : Nat
  pA : Option Addr
  pn : Nat
  pc : Nat
  dA : Option Addr
  dn : Nat
  dc : Nat
def chC (c : Nat × Nat × Nat) : List Value := [.int .u64 (c.1 : Int), .int .u64 (c.2.1 : Int), .int .u64 (c.2.2 : Int)]
def dtC (d : Nat × Nat) : List Value := [.int .u32 (d.1 : Int), .int .u64 (d.2 : Int)]
/-- A record's lists lie in memory. -/
structure LogAt (w : World) (y : Lsl) (s : Lrec) : Prop where
  ro : Row w y.oA (bs s.old)
  rn : Row w y.nA (bs s.new)
  ru : Row w y.uA (bs s.undo)
  rp : Row w y.pA (s.opn.flatMap chC)
  rd : Row w y.dA (s.dirty.flatMap dtC)
  lo : s.old.length = y.on
  ln : s.new.length = y.nn
  lu : s.undo.length = y.un
  lp : s.opn.length = y.pn
  ld : s.dirty.length = y.dn
  co : y.on ≤ y.oc ∧ y.oc ≤ maxLen
  cn : y.nn ≤ y.nc ∧ y.nc ≤ maxLen
  cu : y.un ≤ y.uc ∧ y.uc ≤ maxLen
  cp : y.pn ≤ y.pc ∧ y.pc ≤ maxLen
  cd : y.dn ≤ y.dc ∧ y.dc ≤ maxLen
  fit : LogM.Fit s
theorem row_at1 {w : World} {A : Option Addr} {xs : List Value} (h : Row w A xs) {k : Nat} {v : Value} (hu : xs[k]? = some v) : ∃ g o, A = some ⟨g, o, none⟩ ∧ w.cell? ⟨g, o + k, none⟩ = some v := by
  rcases h with h | ⟨b, o, e, hc⟩
  · rw [h] at hu; simp at hu
  · exact ⟨b, o, e, hc _ _ hu⟩
theorem LogAt.below {w w' : World} {y : Lsl} {s : Lrec} (h : LogAt w y s) (hb : Below w.heap.size w w') : LogAt w' y s :=
  ⟨h.ro.below hb, h.rn.below hb, h.ru.below hb, h.rp.below hb, h.rd.below hb, h.lo, h.ln, h.lu, h.lp, h.ld, h.co, h.cn, h.cu, h.cp, h.cd, h.fit⟩
theorem LogAt.alloc {w : World} {y : Lsl} {s : Lrec} (h : LogAt w y s) (o : Obj) : LogAt (w.alloc o) y s := h.below ((Below.refl _ _).alloc (Nat.le_refl _) _)
theorem chs_get : ∀ (l : List (Nat × Nat × Nat)) (k : Nat) (c : Nat × Nat × Nat), l[k]? = some c → (l.flatMap chC)[k * 3]? = some (.int .u64 (c.1 : Int)) ∧ (l.flatMap chC)[k * 3 + 1]? = some (.int .u64 (c.2.1 : Int)) ∧ (l.flatMap chC)[k * 3 + 2]? = some (.int .u64 (c.2.2 : Int))
  | a :: l, 0, c, h => by
    simp at h; subst h; exact ⟨rfl, rfl, rfl⟩
  | a :: l, k + 1, c, h => by
    have ih := chs_get l k c (by simpa using h)
    rw [List.flatMap_cons, show (k + 1) * 3 = k * 3 + 3 by omega]
    refine ⟨?_, ?_, ?_⟩
    · rw [List.getElem?_append_right (by simp [chC])]; simpa [chC] using ih.1
    · rw [List.getElem?_append_right (by simp [chC])]; simpa [chC, show k * 3 + 3 + 1 - 3 = k * 3 + 1 by omega] using ih.2.1
    · rw [List.getElem?_append_right (by simp [chC])]; simpa [chC, show k * 3 + 3 + 2 - 3 = k * 3 + 2 by omega] using ih.2.2
  | [], _, _, h => by simp at h
theorem dts_get : ∀ (l : List (Nat × Nat)) (k : Nat) (c : Nat × Nat), l[k]? = some c → (l.flatMap dtC)[k * 2]? = some (.int .u32 (c.1 : Int)) ∧ (l.flatMap dtC)[k * 2 + 1]? = some (.int .u64 (c.2 : Int))
  | a :: l, 0, c, h => by
    simp at h; subst h; exact ⟨rfl, rfl⟩
  | a :: l, k + 1, c, h => by
    have ih := dts_get l k c (by simpa using h)
    rw [List.flatMap_cons, show (k + 1) * 2 = k * 2 + 2 by omega]
    refine ⟨?_, ?_⟩
    · rw [List.getElem?_append_right (by simp [dtC])]; simpa [dtC] using ih.1
    · rw [List.getElem?_append_right (by simp [dtC])]; simpa [dtC, show k * 2 + 2 + 1 - 2 = k * 2 + 1 by omega] using ih.2
  | [], _, _, h => by simp at h
theorem row_ch {w : World} {A : Option Addr} {l : List (Nat × Nat × Nat)} (h : Row w A (l.flatMap chC)) {k : Nat} {c : Nat × Nat × Nat} (hs : l[k]? = some c) :
    ∃ b o, A = some ⟨b, o, none⟩ ∧ w.cell? ⟨b, o + k * 3, none⟩ = some (.int .u64 (c.1 : Int)) ∧ w.cell? ⟨b, o + k * 3 + 1, none⟩ = some (.int .u64 (c.2.1 : Int)) ∧ w.cell? ⟨b, o + k * 3 + 2, none⟩ = some (.int .u64 (c.2.2 : Int)) := by
  obtain ⟨g1, g2, g3⟩ := chs_get l k c hs
  rcases h with h | ⟨b, o, e, hc⟩
  · rw [h] at g1; simp at g1
  · exact ⟨b, o, e, hc _ _ g1, by rw [Nat.add_assoc]; exact hc _ _ g2, by rw [Nat.add_assoc]; exact hc _ _ g3⟩
theorem row_dt {w : World} {A : Option Addr} {l : List (Nat × Nat)} (h : Row w A (l.flatMap dtC)) {k : Nat} {c : Nat × Nat} (hs : l[k]? = some c) :
    ∃ b o, A = some ⟨b, o, none⟩ ∧ w.cell? ⟨b, o + k * 2, none⟩ = some (.int .u32 (c.1 : Int)) ∧ w.cell? ⟨b, o + k * 2 + 1, none⟩ = some (.int .u64 (c.2 : Int)) := by
  obtain ⟨g1, g2⟩ := dts_get l k c hs
  rcases h with h | ⟨b, o, e, hc⟩
  · rw [h] at g1; simp at g1
  · exact ⟨b, o, e, hc _ _ g1, by rw [Nat.add_assoc]; exact hc _ _ g2⟩
theorem chain_eq (a b c d e f : Int) (w : World) : (Op.equalIn 10000 54 (.agg #[.int .u64 a, .int .u64 b, .int .u64 c]) (.agg #[.int .u64 d, .int .u64 e, .int .u64 f])).run Try.prog w = .ok (a == d && (b == e && c == f)) w := by
  have u3 := Try.underlying25
  have a3 := Try.isAgg25
  have z3 := Try.sizeOf25
  have hS : Try.prog.underlying 54 = some (.struct (Try.prog.fieldsOf 54)) := by kernel_rfl
  have hp : Try.prog.stoodInHeld 54 = false := by kernel_rfl
  rw [show (10000 : Nat) = 9999 + 1 from rfl, run_equalIn_agg w 9999 54 _ _ hS hp]
  simp only [Program.fieldsOf, Try.underlying54]
  go_simp
  by_cases h1 : a = d <;> by_cases h2 : b = e <;> by_cases h3 : c = f <;> simp [h1, h2, h3]
theorem dirt_eq (a b d e : Int) (w : World) : (Op.equalIn 10000 56 (.agg #[.int .u32 a, .int .u64 b]) (.agg #[.int .u32 d, .int .u64 e])).run Try.prog w = .ok (a == d && b == e) w := by
  have u3 := Try.underlying25
  have a3 := Try.isAgg25
  have z3 := Try.sizeOf25
  have u4 := Try.underlying26
  have a4 := Try.isAgg26
  have z4 := Try.sizeOf26
  have hS : Try.prog.underlying 56 = some (.struct (Try.prog.fieldsOf 56)) := by kernel_rfl
  have hp : Try.prog.stoodInHeld 56 = false := by kernel_rfl
  rw [show (10000 : Nat) = 9999 + 1 from rfl, run_equalIn_agg w 9999 56 _ _ hS hp]
  simp only [Program.fieldsOf, Try.underlying56]
  go_simp
  by_cases h1 : a = d <;> by_cases h2 : b = e <;> simp [h1, h2]
@[go_sem high] theorem chain_same (a b : Nat × Nat × Nat) (w : World) : (Op.equalIn 10000 54 (.agg #[.int .u64 (a.1 : Int), .int .u64 (a.2.1 : Int), .int .u64 (a.2.2 : Int)]) (.agg #[.int .u64 (b.1 : Int), .int .u64 (b.2.1 : Int), .int .u64 (b.2.2 : Int)])).run Try.prog w = .ok (decide (a = b)) w := by
  rw [chain_eq]
  obtain ⟨a1, a2, a3⟩ := a
  obtain ⟨b1, b2, b3⟩ := b
  congr 1
  by_cases h1 : a1 = b1 <;> by_cases h2 : a2 = b2 <;> by_cases h3 : a3 = b3 <;> simp [h1, h2, h3, Int.ofNat_inj]
@[go_sem high] theorem dirt_same (a b : Nat × Nat) (w : World) : (Op.equalIn 10000 56 (.agg #[.int .u32 (a.1 : Int), .int .u64 (a.2 : Int)]) (.agg #[.int .u32 (b.1 : Int), .int .u64 (b.2 : Int)])).run Try.prog w = .ok (decide (a = b)) w := by
  rw [dirt_eq]
  obtain ⟨a1, a2⟩ := a
  obtain ⟨b1, b2⟩ := b
  congr 1
  by_cases h1 : a1 = b1 <;> by_cases h2 : a2 = b2 <;> simp [h1, h2, Int.ofNat_inj]
def BoolPost (p : Prop) (w : World) (e : Ending) (w' : World) : Prop := ∃ r, e = .returned (.bool r) ∧ Hid (r = true ↔ p) ∧ Below w.heap.size w w'
theorem BoolPost.mk_ {p : Prop} {w w' : World} {r : Bool} (h : r = true ↔ p) (hb : Below w.heap.size w w') : BoolPost p w (.returned (.bool r)) w' := ⟨r, rfl, Lib.hid h, hb⟩
theorem BoolPost.yes {p : Prop} {w w' : World} (h : p) (hb : Below w.heap.size w w') : BoolPost p w (.returned (.bool true)) w' := ⟨true, rfl, Lib.hid ⟨fun _ => h, fun _ => rfl⟩, hb⟩
theorem BoolPost.no {p : Prop} {w w' : World} (h : ¬ p) (hb : Below w.heap.size w w') : BoolPost p w (.returned (.bool false)) w' := ⟨false, rfl, Lib.hid ⟨fun q => (by cases q), fun q => absurd q h⟩, hb⟩
theorem BoolPost.no' {p : Prop} {w w' : World} {r : Bool} (h : ¬ p) (hb : Below w.heap.size w w') (hr : r = false) : BoolPost p w (.returned (.bool r)) w' := ⟨r, rfl, Lib.hid ⟨fun q => (by rw [hr] at q; cases q), fun q => absurd q h⟩, hb⟩
theorem BoolPost.yes' {p : Prop} {w w' : World} {r : Bool} (h : p) (hb : Below w.heap.size w w') (hr : r = true) : BoolPost p w (.returned (.bool r)) w' := ⟨r, rfl, Lib.hid ⟨fun _ => h, fun _ => hr⟩, hb⟩
theorem equal8_any (A B : Option Addr) (n n2 c c2 : Nat) (l m : List UInt8) (w : World) (hr : Row w A (bs l)) (hn : l.length = n) (hr2 : Row w B (bs m)) (hn2 : m.length = n2) :
    Calls Try.prog 29 #[.slice A n c, .slice B n2 c2] w fun e w' => e = .returned (.bool (decide (l = m))) ∧ w = w' := by
  have s1 := str_len w A n c l hn hr
  have s2 := str_len w B n2 c2 m hn2 hr2
  have hd := str_beq l m
  clear hn hn2
  go_enter Try.func29, Try.ntmps29
  go_wp2
  go_ret
  exact ⟨rfl, rfl⟩
set_option maxRecDepth 100000 in
theorem equalC_any (A B : Option Addr) (n n2 c c2 : Nat) (l m : List (Nat × Nat × Nat)) (w : World) (hr : Row w A (l.flatMap chC)) (hl : l.length = n) (hr2 : Row w B (m.flatMap chC)) (hl2 : m.length = n2) (hm : n ≤ 9223372036854775807) :
    Calls Try.prog 38 #[.slice A n c, .slice B n2 c2] w (BoolPost (l = m) w) := by
  have HL := Lib.hid hl
  have HL2 := Lib.hid hl2
  clear hl hl2
  by_cases hd : n = n2
  · subst hd
    go_enter Try.func38, Try.ntmps38
    go_wp2
    go_loopw [5, 13] (fun _ i wr => ∃ k : Nat, i = .int .i64 (k : Int) ∧ k ≤ n ∧ Below w.heap.size w wr ∧ Hid (∀ j, j < k → l[j]? = m[j]?)) (fun _ i _ => n - (intOf i).toNat)
    case atStart => exact ⟨0, rfl, Nat.zero_le _, Below.refl _ _, Lib.hid fun j hj => by omega⟩
    case round =>
      obtain ⟨k, rfl, hk, hbel, HA⟩ := hrel
      by_cases hlt : k < n
      · obtain ⟨s, hs⟩ : ∃ s, l[k]? = some s := ⟨_, List.getElem?_eq_getElem (by rw [HL.out]; exact hlt)⟩
        obtain ⟨t, ht⟩ : ∃ t, m[k]? = some t := ⟨_, List.getElem?_eq_getElem (by rw [HL2.out]; exact hlt)⟩
        obtain ⟨b, o, rfl, e1, e2, e3⟩ := row_ch (hr.below hbel) hs
        obtain ⟨b2, o2, rfl, f1, f2, f3⟩ := row_ch (hr2.below hbel) ht
        have hdn : ∀ n, Below wr.heap.size wr (wr.drewN n) := fun n => ⟨rfl, rfl, rfl, Nat.le_refl _, fun _ _ => rfl⟩
        have HDN := Lib.hid hdn
        clear hdn
        have HS := Lib.hid hs
        have HT := Lib.hid ht
        clear hs ht
        go_upto_region 6 with fail
        by_cases hst : s = t
        · go_quiet (fail)
          have hbel2 := below_step hbel (HDN.out nq) (Nat.le_refl _)
          go_wp2
          go_roundw
          case rel =>
            refine ⟨k + 1, by go_num, by omega, hbel2, Lib.hid fun j hj => ?_⟩
            by_cases e : j = k
            · subst e; rw [HS.out, HT.out, hst]
            · exact HA.out j (by omega)
          case measure => simp [intOf]; omega
        · go_quiet (fail)
          have hbel2 := below_step hbel (HDN.out nq) (Nat.le_refl _)
          go_wp2
          go_ret
          exact BoolPost.no (fun h => hst (by have h1 := HS.out; rw [h, HT.out] at h1; injection h1 with h1; exact h1.symm)) hbel2
      · obtain rfl : k = n := by omega
        go_wp2
        go_ret
        exact BoolPost.yes (list_eq HL.out HL2.out HA.out) hbel
  · go_enter Try.func38, Try.ntmps38
    go_wp2
    go_ret
    exact BoolPost.no (fun h => hd (by rw [← HL.out, ← HL2.out, h])) (Below.refl _ _)
set_option maxRecDepth 100000 in
theorem equalD_any (A B : Option Addr) (n n2 c c2 : Nat) (l m : List (Nat × Nat)) (w : World) (hr : Row w A (l.flatMap dtC)) (hl : l.length = n) (hr2 : Row w B (m.flatMap dtC)) (hl2 : m.length = n2) (hm : n ≤ 9223372036854775807) :
    Calls Try.prog 39 #[.slice A n c, .slice B n2 c2] w (BoolPost (l = m) w) := by
  have HL := Lib.hid hl
  have HL2 := Lib.hid hl2
  clear hl hl2
  by_cases hd : n = n2
  · subst hd
    go_enter Try.func39, Try.ntmps39
    go_wp2
    go_loopw [5, 13] (fun _ i wr => ∃ k : Nat, i = .int .i64 (k : Int) ∧ k ≤ n ∧ Below w.heap.size w wr ∧ Hid (∀ j, j < k → l[j]? = m[j]?)) (fun _ i _ => n - (intOf i).toNat)
    case atStart => exact ⟨0, rfl, Nat.zero_le _, Below.refl _ _, Lib.hid fun j hj => by omega⟩
    case round =>
      obtain ⟨k, rfl, hk, hbel, HA⟩ := hrel
      by_cases hlt : k < n
      · obtain ⟨s, hs⟩ : ∃ s, l[k]? = some s := ⟨_, List.getElem?_eq_getElem (by rw [HL.out]; exact hlt)⟩
        obtain ⟨t, ht⟩ : ∃ t, m[k]? = some t := ⟨_, List.getElem?_eq_getElem (by rw [HL2.out]; exact hlt)⟩
        obtain ⟨b, o, rfl, e1, e2⟩ := row_dt (hr.below hbel) hs
        obtain ⟨b2, o2, rfl, f1, f2⟩ := row_dt (hr2.below hbel) ht
        have hdn : ∀ n, Below wr.heap.size wr (wr.drewN n) := fun n => ⟨rfl, rfl, rfl, Nat.le_refl _, fun _ _ => rfl⟩
        have HDN := Lib.hid hdn
        clear hdn
        have HS := Lib.hid hs
        have HT := Lib.hid ht
        clear hs ht
        go_upto_region 6 with fail
        by_cases hst : s = t
        · go_quiet (fail)
          have hbel2 := below_step hbel (HDN.out nq) (Nat.le_refl _)
          go_wp2
          go_roundw
          case rel =>
            refine ⟨k + 1, by go_num, by omega, hbel2, Lib.hid fun j hj => ?_⟩
            by_cases e : j = k
            · subst e; rw [HS.out, HT.out, hst]
            · exact HA.out j (by omega)
          case measure => simp [intOf]; omega
        · go_quiet (fail)
          have hbel2 := below_step hbel (HDN.out nq) (Nat.le_refl _)
          go_wp2
          go_ret
          exact BoolPost.no (fun h => hst (by have h1 := HS.out; rw [h, HT.out] at h1; injection h1 with h1; exact h1.symm)) hbel2
      · obtain rfl : k = n := by omega
        go_wp2
        go_ret
        exact BoolPost.yes (list_eq HL.out HL2.out HA.out) hbel
  · go_enter Try.func39, Try.ntmps39
    go_wp2
    go_ret
    exact BoolPost.no (fun h => hd (by rw [← HL.out, ← HL2.out, h])) (Below.refl _ _)
theorem index_any (A : Option Addr) (n c : Nat) (l : List Int) (x : Int) (w : World) (hr : Row w A (l.map fun i => .int .i64 i)) (hl : l.length = n) (hm : n ≤ 9223372036854775807) :
    Calls Try.prog 60 #[.slice A n c, .int .i64 x] w fun e w' => (∃ v : Int, e = .returned (.int .i64 v) ∧ Hid ((0 ≤ v ↔ x ∈ l) ∧ -1 ≤ v)) ∧ Below w.heap.size w w' := by
  have HL := Lib.hid hl
  clear hl
  go_enter Try.func60, Try.ntmps60
  go_wp2
  go_loopw [5, 8] (fun _ i wr => ∃ k : Nat, i = .int .i64 (k : Int) ∧ k ≤ n ∧ Below w.heap.size w wr ∧ Hid (∀ j, j < k → l[j]? ≠ some x)) (fun _ i _ => n - (intOf i).toNat)
  case atStart => exact ⟨0, rfl, Nat.zero_le _, Below.refl _ _, Lib.hid fun j hj => by omega⟩
  case round =>
    obtain ⟨k, rfl, hk, hbel, HA⟩ := hrel
    by_cases hlt : k < n
    · obtain ⟨s, hs⟩ : ∃ s, l[k]? = some s := ⟨_, List.getElem?_eq_getElem (by rw [HL.out]; exact hlt)⟩
      obtain ⟨b, o, rfl, e1⟩ := row_at1 (hr.below hbel) (k := k) (v := .int .i64 s) (by rw [List.getElem?_map, hs]; rfl)
      have HS := Lib.hid hs
      clear hs
      by_cases hst : x = s
      · subst hst
        go_wp2
        go_ret
        exact ⟨⟨k, rfl, Lib.hid ⟨⟨fun _ => List.mem_of_getElem? HS.out, fun _ => by omega⟩, by omega⟩⟩, hbel⟩
      · go_wp2
        go_roundw
        case rel =>
          refine ⟨k + 1, by go_num, by omega, hbel, Lib.hid fun j hj => ?_⟩
          by_cases e : j = k
          · subst e; rw [HS.out]; intro q; injection q with q; exact hst q.symm
          · exact HA.out j (by omega)
        case measure => simp [intOf]; omega
    · obtain rfl : k = n := by omega
      go_wp2
      go_ret
      refine ⟨⟨-1, rfl, Lib.hid ⟨⟨fun q => absurd q (by omega), fun q => ?_⟩, by omega⟩⟩, hbel⟩
      obtain ⟨j, hj, he⟩ := List.getElem_of_mem q
      exact absurd (List.getElem?_eq_some_iff.2 ⟨hj, he⟩) (HA.out j (by have := HL.out; omega))
theorem contains_any (A : Option Addr) (n c : Nat) (l : List Int) (x : Int) (w : World) (hr : Row w A (l.map fun i => .int .i64 i)) (hl : l.length = n) (hm : n ≤ 9223372036854775807) :
    Calls Try.prog 52 #[.slice A n c, .int .i64 x] w (BoolPost (x ∈ l) w) := by
  go_enter Try.func52, Try.ntmps52
  go_wp2_with fail
  refine (index_any A n c l x w hr hl hm).mono ?_
  rintro e w1 ⟨⟨v, rfl, HV⟩, hb⟩
  go_wp2
  go_ret
  exact ⟨decide (0 ≤ v), rfl, Lib.hid (by rw [decide_eq_true_iff]; exact HV.out.1), hb⟩
end Go.Proofs.Ytpgmhjjdnanlgaa
