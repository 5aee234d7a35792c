/-
  What the putting together of pieces returns: new memory that holds them one behind the other.
  Conditions: the pieces lie in memory as lists; their lengths are bounded.
-/
import Derived.Test.YtaadfalklddhcaaItemW1
import Derived.Test.YtaadfalklddhcaaJoinPlain
namespace Go.Proofs.Ytaadfalklddhcaa
open Go.RowKit Go.Sort Go.Lib
set_option linter.unusedVariables false
/-- n cells from the block's beginning on may be stored into. -/
def Stores (w : World) (g n : Nat) : Prop := ∀ i, i < n → (∃ x, w.cell? ⟨g, i, none⟩ = some (.int .u8 x)) ∧ w.frozen? ⟨g, i, none⟩ = false
theorem Stores.set_ {w : World} {g n : Nat} (h : Stores w g n) (k : Nat) (x : Int) : Stores (w.setCell ⟨g, k, none⟩ (.int .u8 x)) g n := by
  intro i hi
  obtain ⟨⟨y, hy⟩, hf⟩ := h i hi
  refine ⟨?_, by rw [World.frozen?_setCell]; exact hf⟩
  by_cases hk : k = i
  · subst hk
    exact ⟨x, by apply World.cell?_setCell_same; exact hy⟩
  · exact ⟨y, by rw [World.cell?_setCell_other]; exact hy; intro q; injection q with _ q; exact hk q⟩
theorem Stores.below {w w' : World} {g n : Nat} (h : Stores w g n) (hg : g < w.heap.size) (hb : Below w.heap.size w w') : Stores w' g n := by
  intro i hi
  obtain ⟨⟨y, hy⟩, hf⟩ := h i hi
  exact ⟨⟨y, cell_below hb hy⟩, by rw [World.frozen?_of_block (hb.block g hg)]; exact hf⟩
theorem Own.stores {w : World} {base g c : Nat} {l : List UInt8} (h : Own w base (some ⟨g, 0, none⟩) c l) : Stores w g l.length := by
  intro i hi
  exact ⟨⟨_, h.cell (List.getElem?_eq_getElem hi)⟩, h.frozen i⟩
/-- New memory that holds these bytes, and may be written over. -/
def NewF (l : List UInt8) (w : World) (v : Value) (w' : World) : Prop := ∃ g n c, v = .slice (some ⟨g, 0, none⟩) n c ∧ Hid (l.length = n) ∧ (n ≤ c ∧ c ≤ maxLen) ∧ (w.heap.size ≤ g ∧ g < w'.heap.size) ∧ Row w' (some ⟨g, 0, none⟩) (bs l) ∧ Stores w' g n ∧ Below w.heap.size w w'
theorem NewF.bel {l : List UInt8} {w w' : World} {v : Value} (h : NewF l w v w') : Below w.heap.size w w' := by
  obtain ⟨g, n, c, e, h1, h2, h3, h4, h5, h6⟩ := h
  exact h6
theorem NewF.base {l : List UInt8} {w0 w w' : World} {v : Value} (h : NewF l w v w') (hb : Below w0.heap.size w0 w) : NewF l w0 v w' := by
  obtain ⟨g, n, c, e, h1, h2, h3, h4, h5, h6⟩ := h
  exact ⟨g, n, c, e, h1, h2, ⟨Nat.le_trans hb.size h3.1, h3.2⟩, h4, h5, below_join hb h6⟩
theorem NewF.form4 {k : Nat} {vec : List Int} {note : List UInt8} {w w' : World} {v : Value} (h : NewF [CodeM.fx 8 k, CodeM.uv vec.length, ItemM.vb vec, CodeM.tx note].flatten w v w') : NewF (ItemM.form ⟨k, vec, note⟩) w v w' := by
  have e : [CodeM.fx 8 k, CodeM.uv vec.length, ItemM.vb vec, CodeM.tx note].flatten = ItemM.form ⟨k, vec, note⟩ := by simp [ItemM.form]
  rwa [e] at h
theorem holds_of_row {w : World} {A : Option Addr} {l : List UInt8} (n c : Nat) (hn : l.length = n) (hr : Row w A (bs l)) : Lib.HoldsBytes w (.slice A n c) l := by
  subst hn
  refine ⟨A, c, rfl, fun e => ?_, fun a ha i x hx => ?_⟩
  · subst e; exact row_none hr
  · subst ha
    rcases hr with h | ⟨b, o, e, hc⟩
    · rw [List.map_eq_nil_iff.1 h] at hx; simp at hx
    · injection e with e
      subst e
      rw [Addr.add_lit]
      refine hc i _ ?_
      rw [bs_get?, hx]; rfl
theorem join_flat (ls : List (List UInt8)) : Lib.join ls [] = ls.flatten := by
  cases ls with
  | nil => rfl
  | cons x r => rw [Lib.join_cons]; simp [Lib.joinTail]
theorem newf_of_fresh {B : Nat} {w' : World} {v : Value} {l : List UInt8} {w : World} (h : Lib.FreshBytes w.heap.size w' v l) (hl : l ≠ []) (hb : Below w.heap.size w w') : NewF l w v w' := by
  obtain ⟨g, cap, zs, rfl, hg, hlc, hm, hz, hzr, hzb, hc, hf⟩ := h
  have hpos : 0 < l.length := List.length_pos_iff.2 hl
  have hcell : ∀ i u, l[i]? = some u → w'.cell? ⟨g, i, none⟩ = some (.int .u8 (u.toNat : Int)) := by
    intro i u hu
    have hi : i < l.length := (List.getElem?_eq_some_iff.1 hu).1
    rw [hc i (by omega)]
    have hu' := hu
    rw [← hzb] at hu'
    unfold Lib.bytesOf at hu'
    rw [List.getElem?_map, List.getElem?_take_of_lt hi] at hu'
    have hzi : zs[i]? = some (zs[i]'(by omega)) := List.getElem?_eq_getElem (by omega)
    rw [hzi] at hu'
    simp only [Option.map_some, Option.some.injEq] at hu'
    have hr := hzr _ (List.getElem_mem (l := zs) (n := i) (by omega))
    have e : zs.getD i 0 = zs[i]'(by omega) := by simp [List.getD, hzi]
    rw [e, ← hu']
    congr 2
    rw [UInt8.toNat_ofNat']
    omega
  refine ⟨g, l.length, cap, rfl, Lib.hid rfl, ⟨hlc, hm⟩, ⟨hg, ?_⟩, .inr ⟨g, 0, rfl, fun j u hu => ?_⟩, fun i hi => ⟨⟨_, hc i (by omega)⟩, hf i (by omega)⟩, hb⟩
  · exact block_lt_of_cell (hc 0 (by omega))
  · rw [bs_get?] at hu
    obtain ⟨x, hx, rfl⟩ := Option.map_eq_some_iff.1 hu
    rw [Nat.zero_add]
    exact hcell j x hx
set_option maxRecDepth 100000 in
theorem join_any (G n : Nat) (vs : List Value) (ls : List (List UInt8)) (w : World) (hn : ls.length = n) (h2 : 2 ≤ n) (hP : Lib.PartsAt w ⟨G, 0, none⟩ vs ls) (hlen : Lib.lens ls ≤ 140737488355328) (hn2 : n ≤ 100) (hne : ls.flatten ≠ []) :
    Calls Try.prog 110 #[.slice (some ⟨G, 0, none⟩) n n] w fun e w' => ∃ v, e = .returned v ∧ NewF ls.flatten w v w' := by
  have hJ : Calls Try.prog 113 #[.slice (some ⟨G, 0, none⟩) n n, .slice none 0 0] w fun e w' => ∃ v', e = .returned v' ∧ Lib.FreshBytes w.heap.size w' v' (Lib.join ls []) ∧ Below w.heap.size w w' :=
    Any.bytes_Join_many Try.lays14 G 0 n n vs ls (.slice none 0 0) [] w hn h2 hP (Nat.le_refl _) (holds_of_row 0 0 rfl (.inl rfl)) (by omega) (by simpa using hlen)
  go_enter Try.func110, Try.ntmps110
  go_wp2_with fail
  refine hJ.mono ?_
  rintro e w1 ⟨v, rfl, hf, hb⟩
  go_wp2
  go_ret
  rw [join_flat] at hf
  exact ⟨v, rfl, newf_of_fresh (B := 0) hf hne hb⟩
end Go.Proofs.Ytaadfalklddhcaa
