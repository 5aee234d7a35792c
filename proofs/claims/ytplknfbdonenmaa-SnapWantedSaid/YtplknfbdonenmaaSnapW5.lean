/-
  The law's own helpers large and known.
  Conditions: the stamps, the looks and the chain lie in memory as lists; the numbers fit.
-/
import Derived.Test.YtplknfbdonenmaaSnapW4
namespace Go.Proofs.Ytplknfbdonenmaa
open Go.RowKit
set_option linter.unusedVariables false
/-- A look as it lies in memory. -/
structure Lkv where
  k : Lok
  A : Option Addr
  c : Nat
def Lkv.cells (v : Lkv) : List Value := [.int .u64 (v.k.self : Int), .int .u64 (v.k.start : Int), .int .u64 (v.k.base : Int), .slice v.A v.k.done.length v.c]
theorem lkvs_length (l : List Lkv) : (l.flatMap Lkv.cells).length = 4 * l.length := by
  induction l with
  | nil => rfl
  | cons a l ih => rw [List.flatMap_cons, List.length_append, ih, List.length_cons]; simp [Lkv.cells]; omega
theorem lkvs_get : ∀ (l : List Lkv) (k : Nat) (s : Lkv), l[k]? = some s → ∀ j u, s.cells[j]? = some u → (l.flatMap Lkv.cells)[k * 4 + j]? = some u
  | a :: l, 0, s, h, j, u, hj => by
    simp at h; subst h
    rw [Nat.zero_mul, Nat.zero_add, List.flatMap_cons, List.getElem?_append_left (by
      have := (List.getElem?_eq_some_iff.1 hj).1
      exact this)]
    exact hj
  | a :: l, k + 1, s, h, j, u, hj => by
    have ih := lkvs_get l k s (by simpa using h) j u hj
    rw [List.flatMap_cons, List.getElem?_append_right (by simp [Lkv.cells]; omega), show (k + 1) * 4 + j - a.cells.length = k * 4 + j by simp [Lkv.cells]; omega]
    exact ih
  | [], _, _, h, _, _, _ => by simp at h
theorem row_lkv {w : World} {A : Option Addr} {l : List Lkv} (h : Row w A (l.flatMap Lkv.cells)) {k : Nat} {s : Lkv} (hs : l[k]? = some s) :
    ∃ b o, A = some ⟨b, o, none⟩ ∧ w.cell? ⟨b, o + k * 4, none⟩ = some (.int .u64 (s.k.self : Int)) ∧ w.cell? ⟨b, o + k * 4 + 1, none⟩ = some (.int .u64 (s.k.start : Int)) ∧
      w.cell? ⟨b, o + k * 4 + 2, none⟩ = some (.int .u64 (s.k.base : Int)) ∧ w.cell? ⟨b, o + k * 4 + 3, none⟩ = some (.slice s.A s.k.done.length s.c) := by
  have g := lkvs_get l k s hs
  rcases h with h | ⟨b, o, e, hc⟩
  · have := g 0 _ rfl; rw [h] at this; simp at this
  · refine ⟨b, o, e, hc _ _ (g 0 _ rfl), ?_, ?_, ?_⟩
    · rw [Nat.add_assoc]; exact hc _ _ (g 1 _ rfl)
    · rw [Nat.add_assoc]; exact hc _ _ (g 2 _ rfl)
    · rw [Nat.add_assoc]; exact hc _ _ (g 3 _ rfl)
theorem row_new (w : World) (cs : Array Value) (t : TypeId) (fr : Nat × Nat) (xs : List Value) (h : cs.toList = xs) : Row (w.alloc (.cells cs t fr)) (some ⟨w.heap.size, 0, none⟩) xs :=
  .inr ⟨w.heap.size, 0, rfl, fun j u hu => by rw [cell_of_row _ w.heap.size (0 + j) cs t fr (heap_alloc_new w _), Nat.zero_add, ← Array.getElem?_toList, h, hu]⟩
theorem known17_any (w : World) :
    Calls Try.prog 5 #[] w fun e w' => e = .returned (.bool true) ∧ Below w.heap.size w w' := by
  have hk := Lib.hid (show sees ⟨8, 7, 4, [⟨5, 7⟩]⟩ [⟨6, false, false⟩, ⟨5, false, false⟩, ⟨3, false, false⟩] = 1 from by decide)
  go_enter Try.func5, Try.ntmps5
  go_wp2_with fail
  refine (sees_any ⟨8, 7, 4, [⟨5, 7⟩]⟩ (some ⟨w.heap.size, 0, none⟩) (some ⟨w.heap.size + 1 + 1, 0, none⟩) 1 3 [⟨6, false, false⟩, ⟨5, false, false⟩, ⟨3, false, false⟩] _ ?_ (by simp) (((row_new w _ _ _ [.int .u64 5, .int .u64 7] rfl).alloc _).alloc _) (by simp)).mono ?_
  · have := row_new ((w.alloc (.cells #[.int .u64 5, .int .u64 7] 33)).alloc (.cells #[.int .u64 8, .int .u64 7, .int .u64 4, .slice (some ⟨w.heap.size, 0, none⟩) 1 1] 31)) #[.int .u64 6, .bool false, .bool false, .int .u64 5, .bool false, .bool false, .int .u64 3, .bool false, .bool false] 36 (0, 0) _ rfl
    simpa [Hed.cells] using this
  rintro e w1 ⟨rfl, hb⟩
  rw [hk.out]
  go_wp2
  go_ret
  exact ⟨rfl, below_step ((((Below.refl w.heap.size w).alloc (Nat.le_refl _) _).alloc (by simp) _).alloc (by simp; omega) _) hb (by simp)⟩
def LargePost (l : List Hed) (ks : List Lkv) (w : World) (e : Ending) (w' : World) : Prop := ∃ r, e = .returned (.bool r) ∧ (r = false → l.length ≤ 300 ∧ ks.length ≤ 300 ∧ ∀ s ∈ ks, s.k.done.length ≤ 300) ∧ w = w'
set_option maxRecDepth 100000 in
theorem large_any (A A2 : Option Addr) (c c2 : Nat) (l : List Hed) (ks : List Lkv) (w : World) (hl : l.length ≤ 9223372036854775807) (hk : ks.length ≤ 140737488351232) (hr2 : Row w A2 (ks.flatMap Lkv.cells)) (hd : ∀ s ∈ ks, s.k.done.length ≤ 9223372036854775807) :
    Calls Try.prog 4 #[.slice A l.length c, .slice A2 ks.length c2] w (LargePost l ks w) := by
  obtain ⟨m, hm⟩ : ∃ m, IntKind.i64.wrap ((l.length : Int) * (1 + (ks.length : Int))) = m := ⟨_, rfl⟩
  go_enter Try.func4, Try.ntmps4
  go_wp2
  clear hm
  go_loop [6] (fun i => ∃ q : Nat, q ≤ ks.length ∧ q ≤ 300 ∧ i = .int .i64 q ∧ ∀ j : Nat, j < q → ∀ s, ks[j]? = some s → s.k.done.length ≤ 300) (fun i => ks.length - (intOf i).toNat)
  case atStart => exact ⟨0, by omega, by omega, rfl, fun j hj => absurd hj (by omega)⟩
  case round =>
    obtain ⟨q, hq, hq3, rfl, hall⟩ := hrel
    have HA := Lib.hid hall
    clear hall
    by_cases hlt : q < ks.length
    · by_cases h3 : q < 300
      · obtain ⟨s, hs⟩ : ∃ s, ks[q]? = some s := ⟨_, List.getElem?_eq_getElem hlt⟩
        obtain ⟨b, o, rfl, e1, e2, e3, e4⟩ := row_lkv hr2 hs
        have hdl := hd s (List.mem_of_getElem? hs)
        have HS := Lib.hid hs
        clear hs
        by_cases hbig : 300 < s.k.done.length
        · go_wp2
          go_ret
          exact ⟨true, rfl, (fun h => absurd h (by simp)), rfl⟩
        · go_wp2
          go_round
          case rel =>
            refine ⟨q + 1, by omega, by omega, by go_num, fun j hj s' hs' => ?_⟩
            by_cases e : j = q
            · subst e
              rw [HS.out] at hs'
              injection hs' with hs'
              subst hs'
              omega
            · exact HA.out j (by omega) s' hs'
          case measure => simp [intOf]; omega
      · go_wp2
        all_goals
          go_ret
          refine ⟨_, rfl, (fun h => ?_), rfl⟩
          exfalso
          first | (simp at h; done) | (simp at h; omega)
    · obtain rfl : q = ks.length := by omega
      have hall : ∀ s ∈ ks, s.k.done.length ≤ 300 := fun s hs => by
        obtain ⟨j, hj, e⟩ := List.getElem_of_mem hs
        exact HA.out j hj s (by rw [List.getElem?_eq_getElem hj, e])
      have HAL := Lib.hid hall
      clear hall hd
      go_wp2
      all_goals
        go_ret
        refine ⟨_, rfl, (fun h => ?_), rfl⟩
        first
          | (simp at h; done)
          | (simp at h; exact ⟨by omega, by omega, HAL.out⟩)
          | (exfalso; simp at h; omega)
end Go.Proofs.Ytplknfbdonenmaa
