/-
  Whether two records are alike, by the program and by the document.
  Conditions: the records' lists lie in memory; their lengths are bounded.
-/
import Derived.Test.YtaadfalklddhcaaZDj
import Derived.Test.YtaadfalklddhcaaZBj
import Derived.Test.YtaadfalklddhcaaJoinPlain
import Derived.Deep.RegionHeld3
/-! part -/
namespace Go.Proofs.Ytaadfalklddhcaa
open Go.RowKit Go.Sort Go.Lib
set_option linter.unusedVariables false
theorem may_any (k : Int) (A A2 : Option Addr) (n c m c2 : Nat) (w : World) (hn : n ≤ 9223372036854775807) (hm : m ≤ 9223372036854775807) :
    Calls Try.prog 46 #[.agg #[.int .u64 k, .slice A n c, .slice A2 m c2]] w fun e w' => e = .returned (.int .i64 ((if n = 0 ∨ 4096 < n then 9 else if 1024 < m then 3 else 0 : Nat) : Int)) ∧ Below w.heap.size w w' := by
  have hb : Below w.heap.size w (w.alloc (.cells #[.int .u64 k, .slice A n c, .slice A2 m c2] 30)) := (Below.refl _ _).alloc (Nat.le_refl _) _
  by_cases h0 : n = 0
  · subst h0
    rw [if_pos (.inl rfl)]
    go_enter Try.func46, Try.ntmps46
    go_wp2
    go_ret
    exact ⟨rfl, hb⟩
  · have e0 : ((n : Int) == 0) = false := beq_eq_false_iff_ne.2 (by omega)
    have e0' : decide ((n : Int) < 1) = false := decide_eq_false (by omega)
    by_cases h1 : 4096 < n
    · have e1 : decide ((4096 : Int) < n) = true := decide_eq_true (by omega)
      rw [if_pos (.inr h1)]
      go_enter Try.func46, Try.ntmps46
      go_wp2
      go_ret
      exact ⟨rfl, hb⟩
    · have e1 : decide ((4096 : Int) < n) = false := decide_eq_false (by omega)
      rw [if_neg (by omega)]
      by_cases h2 : 1024 < m
      · rw [if_pos h2]
        go_enter Try.func46, Try.ntmps46
        go_wp2
        go_ret
        exact ⟨rfl, hb⟩
      · rw [if_neg h2]
        go_enter Try.func46, Try.ntmps46
        go_wp2
        go_ret
        exact ⟨rfl, hb⟩
theorem refmay_any (k : Int) (A A2 : Option Addr) (n c m c2 : Nat) (w : World) (hn : n ≤ 9223372036854775807) (hm : m ≤ 9223372036854775807) :
    Calls Try.prog 78 #[.agg #[.int .u64 k, .slice A n c, .slice A2 m c2]] w fun e w' => e = .returned (.int .i64 ((if n = 0 ∨ 4096 < n then 9 else if 1024 < m then 3 else 0 : Nat) : Int)) ∧ Below w.heap.size w w' := by
  have hb : Below w.heap.size w (w.alloc (.cells #[.int .u64 k, .slice A n c, .slice A2 m c2] 30)) := (Below.refl _ _).alloc (Nat.le_refl _) _
  by_cases h0 : n = 0
  · subst h0
    rw [if_pos (.inl rfl)]
    go_enter Try.func78, Try.ntmps78
    go_wp2
    go_ret
    exact ⟨rfl, hb⟩
  · have e0 : ((n : Int) == 0) = false := beq_eq_false_iff_ne.2 (by omega)
    have e0' : decide ((n : Int) < 1) = false := decide_eq_false (by omega)
    by_cases h1 : 4096 < n
    · have e1 : decide ((4096 : Int) < n) = true := decide_eq_true (by omega)
      rw [if_pos (.inr h1)]
      go_enter Try.func78, Try.ntmps78
      go_wp2
      go_ret
      exact ⟨rfl, hb⟩
    · have e1 : decide ((4096 : Int) < n) = false := decide_eq_false (by omega)
      rw [if_neg (by omega)]
      by_cases h2 : 1024 < m
      · rw [if_pos h2]
        go_enter Try.func78, Try.ntmps78
        go_wp2
        go_ret
        exact ⟨rfl, hb⟩
      · rw [if_neg h2]
        go_enter Try.func78, Try.ntmps78
        go_wp2
        go_ret
        exact ⟨rfl, hb⟩
end Go.Proofs.Ytaadfalklddhcaa
/-! part -/
namespace Go.Proofs.Ytaadfalklddhcaa
open Go.RowKit Go.Sort Go.Lib
set_option linter.unusedVariables false
/-- n cells from the block's beginning on may be stored into. -/
def Stores (w : World) (g n : Nat) : Prop := ∀ i, i < n → (∃ x, w.cell? ⟨g, i, none⟩ = some (.int .u8 x)) ∧ w.frozen? ⟨g, i, none⟩ = false
theorem Stores.set_ {w : World} {g n : Nat} (h : Stores w g n) (k : Nat) (x : Int) : Stores (w.setCell ⟨g, k, none⟩ (.int .u8 x)) g n := by
  intro i hi
  obtain ⟨⟨y, hy⟩, hf⟩ := h i hi
  refine ⟨?_, by rw [World.frozen?_setCell]; exact hf⟩
  by_cases hk : k = i
  · subst hk
    exact ⟨x, by apply World.cell?_setCell_same; exact hy⟩
  · exact ⟨y, by rw [World.cell?_setCell_other]; exact hy; intro q; injection q with _ q; exact hk q⟩
theorem Stores.below {w w' : World} {g n : Nat} (h : Stores w g n) (hg : g < w.heap.size) (hb : Below w.heap.size w w') : Stores w' g n := by
  intro i hi
  obtain ⟨⟨y, hy⟩, hf⟩ := h i hi
  exact ⟨⟨y, cell_below hb hy⟩, by rw [World.frozen?_of_block (hb.block g hg)]; exact hf⟩
theorem Own.stores {w : World} {base g c : Nat} {l : List UInt8} (h : Own w base (some ⟨g, 0, none⟩) c l) : Stores w g l.length := by
  intro i hi
  exact ⟨⟨_, h.cell (List.getElem?_eq_getElem hi)⟩, h.frozen i⟩
/-- New memory that holds these bytes, and may be written over. -/
def NewF (l : List UInt8) (w : World) (v : Value) (w' : World) : Prop := ∃ g n c, v = .slice (some ⟨g, 0, none⟩) n c ∧ Hid (l.length = n) ∧ (n ≤ c ∧ c ≤ maxLen) ∧ (w.heap.size ≤ g ∧ g < w'.heap.size) ∧ Row w' (some ⟨g, 0, none⟩) (bs l) ∧ Stores w' g n ∧ Below w.heap.size w w'
theorem NewF.bel {l : List UInt8} {w w' : World} {v : Value} (h : NewF l w v w') : Below w.heap.size w w' := by
  obtain ⟨g, n, c, e, h1, h2, h3, h4, h5, h6⟩ := h
  exact h6
theorem NewF.base {l : List UInt8} {w0 w w' : World} {v : Value} (h : NewF l w v w') (hb : Below w0.heap.size w0 w) : NewF l w0 v w' := by
  obtain ⟨g, n, c, e, h1, h2, h3, h4, h5, h6⟩ := h
  exact ⟨g, n, c, e, h1, h2, ⟨Nat.le_trans hb.size h3.1, h3.2⟩, h4, h5, below_join hb h6⟩
theorem NewF.form4 {k : Nat} {vec : List Int} {note : List UInt8} {w w' : World} {v : Value} (h : NewF [CodeM.fx 8 k, CodeM.uv vec.length, ItemM.vb vec, CodeM.tx note].flatten w v w') : NewF (ItemM.form ⟨k, vec, note⟩) w v w' := by
  have e : [CodeM.fx 8 k, CodeM.uv vec.length, ItemM.vb vec, CodeM.tx note].flatten = ItemM.form ⟨k, vec, note⟩ := by simp [ItemM.form]
  rwa [e] at h
theorem holds_of_row {w : World} {A : Option Addr} {l : List UInt8} (n c : Nat) (hn : l.length = n) (hr : Row w A (bs l)) : Lib.HoldsBytes w (.slice A n c) l := by
  subst hn
  refine ⟨A, c, rfl, fun e => ?_, fun a ha i x hx => ?_⟩
  · subst e; exact row_none hr
  · subst ha
    rcases hr with h | ⟨b, o, e, hc⟩
    · rw [List.map_eq_nil_iff.1 h] at hx; simp at hx
    · injection e with e
      subst e
      rw [Addr.add_lit]
      refine hc i _ ?_
      rw [bs_get?, hx]; rfl
theorem join_flat (ls : List (List UInt8)) : Lib.join ls [] = ls.flatten := by
  cases ls with
  | nil => rfl
  | cons x r => rw [Lib.join_cons]; simp [Lib.joinTail]
theorem newf_of_fresh {B : Nat} {w' : World} {v : Value} {l : List UInt8} {w : World} (h : Lib.FreshBytes w.heap.size w' v l) (hl : l ≠ []) (hb : Below w.heap.size w w') : NewF l w v w' := by
  obtain ⟨g, cap, zs, rfl, hg, hlc, hm, hz, hzr, hzb, hc, hf⟩ := h
  have hpos : 0 < l.length := List.length_pos_iff.2 hl
  have hcell : ∀ i u, l[i]? = some u → w'.cell? ⟨g, i, none⟩ = some (.int .u8 (u.toNat : Int)) := by
    intro i u hu
    have hi : i < l.length := (List.getElem?_eq_some_iff.1 hu).1
    rw [hc i (by omega)]
    have hu' := hu
    rw [← hzb] at hu'
    unfold Lib.bytesOf at hu'
    rw [List.getElem?_map, List.getElem?_take_of_lt hi] at hu'
    have hzi : zs[i]? = some (zs[i]'(by omega)) := List.getElem?_eq_getElem (by omega)
    rw [hzi] at hu'
    simp only [Option.map_some, Option.some.injEq] at hu'
    have hr := hzr _ (List.getElem_mem (l := zs) (n := i) (by omega))
    have e : zs.getD i 0 = zs[i]'(by omega) := by simp [List.getD, hzi]
    rw [e, ← hu']
    congr 2
    rw [UInt8.toNat_ofNat']
    omega
  refine ⟨g, l.length, cap, rfl, Lib.hid rfl, ⟨hlc, hm⟩, ⟨hg, ?_⟩, .inr ⟨g, 0, rfl, fun j u hu => ?_⟩, fun i hi => ⟨⟨_, hc i (by omega)⟩, hf i (by omega)⟩, hb⟩
  · exact block_lt_of_cell (hc 0 (by omega))
  · rw [bs_get?] at hu
    obtain ⟨x, hx, rfl⟩ := Option.map_eq_some_iff.1 hu
    rw [Nat.zero_add]
    exact hcell j x hx
set_option maxRecDepth 100000 in
theorem join_any (G n : Nat) (vs : List Value) (ls : List (List UInt8)) (w : World) (hn : ls.length = n) (h2 : 2 ≤ n) (hP : Lib.PartsAt w ⟨G, 0, none⟩ vs ls) (hlen : Lib.lens ls ≤ 140737488355328) (hn2 : n ≤ 100) (hne : ls.flatten ≠ []) :
    Calls Try.prog 110 #[.slice (some ⟨G, 0, none⟩) n n] w fun e w' => ∃ v, e = .returned v ∧ NewF ls.flatten w v w' := by
  have hJ : Calls Try.prog 113 #[.slice (some ⟨G, 0, none⟩) n n, .slice none 0 0] w fun e w' => ∃ v', e = .returned v' ∧ Lib.FreshBytes w.heap.size w' v' (Lib.join ls []) ∧ Below w.heap.size w w' :=
    Any.bytes_Join_many Try.lays14 G 0 n n vs ls (.slice none 0 0) [] w hn h2 hP (Nat.le_refl _) (holds_of_row 0 0 rfl (.inl rfl)) (by omega) (by simpa using hlen)
  go_enter Try.func110, Try.ntmps110
  go_wp2_with fail
  refine hJ.mono ?_
  rintro e w1 ⟨v, rfl, hf, hb⟩
  go_wp2
  go_ret
  rw [join_flat] at hf
  exact ⟨v, rfl, newf_of_fresh (B := 0) hf hne hb⟩
end Go.Proofs.Ytaadfalklddhcaa
/-! part -/
namespace Go.Proofs.Ytaadfalklddhcaa
open Go.RowKit Go.Sort Go.Lib
set_option linter.unusedVariables false
def i32s (l : List Int) : List Value := l.map (Value.int .i32)
theorem row_i32 {w : World} {A : Option Addr} {l : List Int} (h : Row w A (i32s l)) {k : Nat} {v : Int} (hv : l[k]? = some v) : ∃ b o, A = some ⟨b, o, none⟩ ∧ w.cell? ⟨b, o + k, none⟩ = some (.int .i32 v) := by
  rcases h with h | ⟨b, o, e, hc⟩
  · have : l = [] := List.map_eq_nil_iff.1 h
    subst this; simp at hv
  · exact ⟨b, o, e, hc k _ (by unfold i32s; rw [List.getElem?_map, hv]; rfl)⟩
theorem byte_int (m p : Nat) : (m : Int) / (p : Int) % 256 = ((CodeM.byte (m / p % 256)).toNat : Int) := by
  rw [CodeM.ofNat_toNat _ (Nat.mod_lt _ (by omega))]; omega
theorem byte_low (m : Nat) : (m : Int) % 256 = ((CodeM.byte (m / 256 ^ 0 % 256)).toNat : Int) := by
  rw [show (256 : Nat) ^ 0 = 1 from rfl, CodeM.ofNat_toNat _ (Nat.mod_lt _ (by omega))]; omega
theorem byte_top (m : Nat) (h : m < 4294967296) : (m : Int) / 16777216 = ((CodeM.byte (m / 256 ^ 3 % 256)).toNat : Int) := by
  rw [show (256 : Nat) ^ 3 = 16777216 from rfl, CodeM.ofNat_toNat _ (Nat.mod_lt _ (by omega))]; omega
theorem parts4 (w : World) (A1 A2 A3 A4 : Option Addr) (n1 c1 n2 c2 n3 c3 n4 c4 : Nat) (l1 l2 l3 l4 : List UInt8) (e1 : l1.length = n1) (e2 : l2.length = n2) (e3 : l3.length = n3) (e4 : l4.length = n4)
    (r1 : Row w A1 (bs l1)) (r2 : Row w A2 (bs l2)) (r3 : Row w A3 (bs l3)) (r4 : Row w A4 (bs l4)) :
    Lib.PartsAt (w.alloc (.cells #[.slice A1 n1 c1, .slice A2 n2 c2, .slice A3 n3 c3, .slice A4 n4 c4] 22)) ⟨w.heap.size, 0, none⟩ [.slice A1 n1 c1, .slice A2 n2 c2, .slice A3 n3 c3, .slice A4 n4 c4] [l1, l2, l3, l4] := by
  refine ⟨rfl, fun i v hv => ?_, fun i v l hv hl => ?_⟩
  · rw [Addr.add_lit, Nat.zero_add, Blk.cell (Blk.new w 22 #[.slice A1 n1 c1, .slice A2 n2 c2, .slice A3 n3 c3, .slice A4 n4 c4]) i, List.getElem?_toArray]
    exact hv
  · match i with
    | 0 => simp at hv hl; subst hv hl; exact holds_of_row n1 c1 e1 (r1.alloc _)
    | 1 => simp at hv hl; subst hv hl; exact holds_of_row n2 c2 e2 (r2.alloc _)
    | 2 => simp at hv hl; subst hv hl; exact holds_of_row n3 c3 e3 (r3.alloc _)
    | 3 => simp at hv hl; subst hv hl; exact holds_of_row n4 c4 e4 (r4.alloc _)
    | i + 4 => simp at hv
theorem row_4 (w : World) (a b c d : Int) (m : Nat) (h0 : a = ((CodeM.byte (m / 256 ^ 0 % 256)).toNat : Int)) (h1 : b = ((CodeM.byte (m / 256 ^ 1 % 256)).toNat : Int)) (h2 : c = ((CodeM.byte (m / 256 ^ 2 % 256)).toNat : Int)) (h3 : d = ((CodeM.byte (m / 256 ^ 3 % 256)).toNat : Int)) :
    Row (w.alloc (.cells #[.int .u8 a, .int .u8 b, .int .u8 c, .int .u8 d] 5)) (some ⟨w.heap.size, 0, none⟩) (bs (CodeM.fx 4 m)) := by
  subst h0 h1 h2 h3
  exact row_lit w (CodeM.fx 4 m) _ _ _ rfl
set_option maxRecDepth 100000 in
set_option maxHeartbeats 8000000 in
theorem itembytes_ok (x : Itm) (A A2 : Option Addr) (c c2 : Nat) (w : World) (hk : x.key < 18446744073709551616) (hv : ∀ v ∈ x.vec, -2147483648 ≤ v ∧ v < 2147483648)
    (hr : Row w A (i32s x.vec)) (hr2 : Row w A2 (bs x.note)) (h1 : 1 ≤ x.vec.length) (h2 : x.vec.length ≤ 4096) (h3 : x.note.length ≤ 1024) :
    Calls Try.prog 61 #[.agg #[.int .u64 (x.key : Int), .slice A x.vec.length c, .slice A2 x.note.length c2]] w fun e w' => ∃ v, e = .returned (.tuple #[v, .int .i64 0]) ∧ NewF (ItemM.form x) w v w' := by
  obtain ⟨key, vec, note⟩ := x
  dsimp only at *
  have hflat : [CodeM.fx 8 key, CodeM.uv vec.length, ItemM.vb vec, CodeM.tx note].flatten ≠ [] := by
    have := ItemM.form_ne ⟨key, vec, note⟩
    simpa [ItemM.form] using this
  have hlens : Lib.lens [CodeM.fx 8 key, CodeM.uv vec.length, ItemM.vb vec, CodeM.tx note] ≤ 140737488355328 := by
    have g1 := (CodeM.uv_length vec.length).2
    have g2 := (CodeM.uv_length note.length).2
    unfold CodeM.tx
    simp [Lib.lens, CodeM.fx_length, ItemM.vb_length]; omega
  go_enter Try.func61, Try.ntmps61
  go_wp2_with fail
  refine (may_any (key : Int) A A2 vec.length c note.length c2 _ (by omega) (by omega)).mono ?_
  rw [if_neg (by omega), if_neg (by omega)]
  rintro e w1 ⟨rfl, hb1⟩
  have hB := (Blk.new w 30 #[.int .u64 (key : Int), .slice A vec.length c, .slice A2 note.length c2]).below hb1 (by simp)
  have b1 : Below w.heap.size w w1 := below_step ((Below.refl w.heap.size w).alloc (Nat.le_refl _) _) hb1 (Nat.le_refl _)
  have s1 : w.heap.size < w1.heap.size := hB.lt
  have c0 := hB.cell 0
  have c1 := hB.cell 1
  have c2' := hB.cell 2
  simp only [List.getElem?_toArray, List.getElem?_cons_zero, List.getElem?_cons_succ] at c0 c1 c2'
  have HB := Lib.hid hB
  have R1 := Lib.hid (hr.below b1)
  have R2 := Lib.hid (hr2.below b1)
  clear hb1 hr hr2 hB
  go_wp2_with (at_make; refine wpl_make2 _ rfl (.const (.int .i64 0)) (.tmp 17) rfl 0 (4 * vec.length) rfl (by go_num) (by omega) (by omega) ?_)
  have O1 : Hid (Own (w1.alloc (.cells (bs (List.replicate (4 * vec.length) 0)).toArray 5)) w1.heap.size (some ⟨w1.heap.size, 0, none⟩) (4 * vec.length) []) := Lib.hid (Own.made w1 _ _ (Nat.le_refl _) (by unfold maxLen; omega) (by rw [List.size_toArray, bs_length, List.length_replicate]))
  have B1 : Hid (Below w1.heap.size w1 (w1.alloc (.cells (bs (List.replicate (4 * vec.length) 0)).toArray 5))) := Lib.hid ((Below.refl _ _).alloc (Nat.le_refl _) _)
  generalize w1.alloc (.cells (bs (List.replicate (4 * vec.length) 0)).toArray 5) = w2 at *
  have hvl := Lib.hid hv
  clear hv
  go_loopw [5, 22] (fun b i wr => ∃ (k : Nat) (A3 : Option Addr) (c3 : Nat), i = .int .i64 k ∧ k ≤ vec.length ∧ b = .slice A3 (4 * k) c3 ∧ Own wr w1.heap.size A3 c3 (ItemM.vb (vec.take k)) ∧ Below w1.heap.size w1 wr) (fun _ i _ => vec.length - (RowKit.intOf i).toNat)
  case atStart => exact ⟨0, _, _, rfl, by omega, rfl, O1.out, B1.out⟩
  case round =>
    obtain ⟨k, A3, c3, rfl, hk2, rfl, hO, hbel⟩ := hrel
    have hsz := hbel.size
    have hlen : (ItemM.vb (vec.take k)).length = 4 * k := by rw [ItemM.vb_length, List.length_take]; omega
    have HL := Lib.hid hlen
    clear hlen
    by_cases hlt : k < vec.length
    · obtain ⟨v, hu⟩ : ∃ u, vec[k]? = some u := ⟨_, List.getElem?_eq_getElem hlt⟩
      obtain ⟨b, o, rfl, e1⟩ := row_i32 (R1.out.below hbel) hu
      have hvr := hvl.out v (List.mem_of_getElem? hu)
      have HS : Hid (ItemM.vb (vec.take (k + 1)) = ItemM.vb (vec.take k) ++ CodeM.fx 4 (ItemM.u32 v)) := Lib.hid (by rw [← ItemM.vb_snoc, List.take_add_one, hu]; rfl)
      have hm1 : (v % 4294967296) = ((ItemM.u32 v : Nat) : Int) := by unfold ItemM.u32; omega
      have hm2 : IntKind.u32.wrap v = ((ItemM.u32 v : Nat) : Int) := by rw [IntKind.wrap_u32]; exact hm1
      have hm3 := ItemM.u32_lt v
      obtain ⟨m, em⟩ : ∃ m, ItemM.u32 v = m := ⟨_, rfl⟩
      rw [em] at HS hm1 hm2 hm3
      clear hu em
      go_wp2_with (at_builtin; refine wpl_app' _ rfl (.tmp 28) (.tmp 40) rfl w1.heap.size A3 c3 (ItemM.vb (vec.take k)) (4 * k) rfl HL.out (hO.alloc _) (some ⟨wr.heap.size, 0, none⟩) 4 (CodeM.fx 4 m) 4 rfl (CodeM.fx_length 4 m) (row_4 wr _ _ _ _ m ?_ ?_ ?_ ?_) ?_ ?_ ?_)
      · exact byte_low m
      · exact byte_int m 256
      · exact byte_int m 65536
      · exact byte_top m hm3
      · omega
      · simp; omega
      intro A4 c4 w4 h4 hg4 _
      have hb4 : Below w1.heap.size w1 w4 := (hO.alloc _).grown_below (by rw [HL.out]) hg4 (hbel.alloc hsz _) (Nat.le_refl _) (by simp; omega)
      go_wp2
      go_roundw
      case rel => exact ⟨k + 1, A4, c4, by go_num, by omega, rfl, by rw [HS.out]; exact h4, hb4⟩
      case measure => simp [RowKit.intOf]; omega
    · obtain rfl : k = vec.length := by omega
      rw [List.take_length] at HL hO
      have hwv : IntKind.u64.wrap (vec.length : Int) = (vec.length : Int) := by rw [IntKind.wrap_u64]; omega
      have P64 : Hid (∀ W, Calls Try.prog 101 #[.slice none 0 0, .int .u64 (key : Int)] W (NewB (CodeM.fx 8 key) W)) := Lib.hid (fun W => Put64_any none 0 key [] W (.inl rfl) (by simp) hk)
      have PUV : Hid (∀ W, Calls Try.prog 103 #[.slice none 0 0, .int .u64 (vec.length : Int)] W (NewB (CodeM.uv vec.length) W)) := Lib.hid (fun W => putuv_any none 0 vec.length [] W (.inl rfl) (by simp) (by omega))
      have PTX : Hid (∀ W, Row W A2 (bs note) → Calls Try.prog 106 #[.slice none 0 0, .slice A2 note.length c2] W (NewB (CodeM.tx note) W)) := Lib.hid (fun W h => PutText_any none A2 0 c2 [] note W (.inl rfl) h (by simp; omega))
      have HK : Hid (∀ w', Below wr.heap.size wr w' → w'.cell? ⟨w.heap.size, 0, none⟩ = some (.int .u64 (key : Int)) ∧ w'.cell? ⟨w.heap.size, 1, none⟩ = some (.slice A vec.length c) ∧ w'.cell? ⟨w.heap.size, 2, none⟩ = some (.slice A2 note.length c2) ∧ Below wr.heap.size wr w') := Lib.hid (by
        intro w' hb
        have h := below_join hbel hb
        exact ⟨cell_below h c0, cell_below h c1, cell_below h c2', hb⟩)
      have BB : Hid (Below wr.heap.size wr wr.drew) := Lib.hid ⟨rfl, rfl, rfl, Nat.le_refl _, fun _ _ => rfl⟩
      have Q3 : Hid (Row wr.drew A3 (bs (ItemM.vb vec))) := Lib.hid hO.row
      have Q5 : Hid (Row wr.drew A2 (bs note)) := Lib.hid (R2.out.below hbel).drew
      have BW : Hid (Below w.heap.size w wr) := Lib.hid (below_join b1 hbel)
      clear hO hbel c0 c1 c2' b1 R1 R2 HB O1 B1
      go_wp2
      go_region_held3 (fun w' => w'.cell? ⟨w.heap.size, 0, none⟩ = some (.int .u64 (key : Int)) ∧ w'.cell? ⟨w.heap.size, 1, none⟩ = some (.slice A vec.length c) ∧ w'.cell? ⟨w.heap.size, 2, none⟩ = some (.slice A2 note.length c2) ∧ Below wr.heap.size wr w')
        (first | exact HK.out _ BE.out | exact HK.out _ BB.out | exact HK.out _ (BB.out.alloc BB.out.size _))
        (first
          | (go_at_call 101
             refine (P64.out _).mono ?_
             rintro e wa ⟨P1, m1, d1, rfl, pe1, po1, pb1⟩
             have Q1 := Lib.hid po1.row
             try replace Q2 := Lib.hid (Q2.out.below pb1)
             try replace Q4 := Lib.hid (Q4.out.below pb1)
             replace Q3 := Lib.hid (Q3.out.below pb1)
             replace Q5 := Lib.hid (Q5.out.below pb1)
             replace BB := Lib.hid (below_join BB.out pb1)
             clear po1 pb1)
          | (go_at_call 103
             refine (PUV.out _).mono ?_
             rintro e wb ⟨P2, m2, d2, rfl, pe2, po2, pb2⟩
             have Q2 := Lib.hid po2.row
             try replace Q1 := Lib.hid (Q1.out.below pb2)
             try replace Q4 := Lib.hid (Q4.out.below pb2)
             replace Q3 := Lib.hid (Q3.out.below pb2)
             replace Q5 := Lib.hid (Q5.out.below pb2)
             replace BB := Lib.hid (below_join BB.out pb2)
             clear po2 pb2)
          | (go_at_call 106
             refine (PTX.out _ Q5.out).mono ?_
             rintro e wd ⟨P4, m4, d4, rfl, pe4, po4, pb4⟩
             have Q4 := Lib.hid po4.row
             try replace Q1 := Lib.hid (Q1.out.below pb4)
             try replace Q2 := Lib.hid (Q2.out.below pb4)
             replace Q3 := Lib.hid (Q3.out.below pb4)
             replace Q5 := Lib.hid (Q5.out.below pb4)
             replace BB := Lib.hid (below_join BB.out pb4)
             clear po4 pb4)
          | (go_at_call 110
             refine (join_any _ 4 _ [CodeM.fx 8 key, CodeM.uv vec.length, ItemM.vb vec, CodeM.tx note] _ rfl (by omega) (parts4 _ _ _ _ _ _ _ _ _ _ _ _ _ _ _ _ _ pe1.out pe2.out HL.out pe4.out Q1.out Q2.out Q3.out Q4.out) hlens (by omega) hflat).mono ?_
             rintro e we ⟨V, rfl, VF⟩
             have BF := Lib.hid (below_join BB.out ((Below.refl _ _).alloc (Nat.le_refl _) (.cells #[.slice P1 m1 d1, .slice P2 m2 d2, .slice A3 (4 * vec.length) c3, .slice P4 m4 d4] 22)))
             have BE := Lib.hid (below_join BF.out VF.bel)))
      all_goals go_wp2
      all_goals go_ret2
      all_goals exact ⟨V, rfl, (VF.base (below_join BW.out BF.out)).form4⟩
end Go.Proofs.Ytaadfalklddhcaa
/-! part -/
namespace Go.Proofs.Ytaadfalklddhcaa
open Go.RowKit Go.Sort Go.Lib
set_option linter.unusedVariables false
set_option maxRecDepth 100000 in
theorem itembytes_no (x : Itm) (A A2 : Option Addr) (c c2 : Nat) (w : World) (hl : x.vec.length ≤ 9223372036854775807) (hl2 : x.note.length ≤ 9223372036854775807) (h : ItemM.may x ≠ 0) :
    Calls Try.prog 61 #[.agg #[.int .u64 (x.key : Int), .slice A x.vec.length c, .slice A2 x.note.length c2]] w fun e w' => e = .returned (.tuple #[.slice none 0 0, .int .i64 (ItemM.may x : Int)]) ∧ Below w.heap.size w w' := by
  have hm := (may_any (x.key : Int) A A2 x.vec.length c x.note.length c2 (w.alloc (.cells #[.int .u64 (x.key : Int), .slice A x.vec.length c, .slice A2 x.note.length c2] 30)) hl hl2)
  change Calls _ _ _ _ fun e w' => e = .returned (.int .i64 (ItemM.may x : Int)) ∧ _ at hm
  obtain ⟨q, hq⟩ : ∃ q, ItemM.may x = q := ⟨_, rfl⟩
  rw [hq] at hm h ⊢
  clear hq
  have hq : ((q : Int) == 0) = false := beq_eq_false_iff_ne.2 (by omega)
  go_enter Try.func61, Try.ntmps61
  go_wp2_with fail
  refine hm.mono ?_
  rintro e w1 ⟨rfl, hb1⟩
  go_wp2
  go_ret2
  exact ⟨rfl, below_step ((Below.refl w.heap.size w).alloc (Nat.le_refl _) _) hb1 (Nat.le_refl _)⟩
set_option maxRecDepth 100000 in
theorem refform_any (x : Itm) (A A2 : Option Addr) (c c2 : Nat) (w : World) (hk : x.key < 18446744073709551616) (hv : ∀ v ∈ x.vec, -2147483648 ≤ v ∧ v < 2147483648)
    (hr : Row w A (i32s x.vec)) (hr2 : Row w A2 (bs x.note)) (h2 : x.vec.length ≤ 4096) (h3 : x.note.length ≤ 1024) :
    Calls Try.prog 79 #[.agg #[.int .u64 (x.key : Int), .slice A x.vec.length c, .slice A2 x.note.length c2]] w (NewB (ItemM.form x) w) := by
  obtain ⟨key, vec, note⟩ := x
  dsimp only at *
  have hwv : IntKind.u64.wrap (vec.length : Int) = (vec.length : Int) := by rw [IntKind.wrap_u64]; omega
  go_enter Try.func79, Try.ntmps79
  go_wp2_with fail
  refine (reffixed_any key 8 _ hk (by omega)).mono ?_
  rintro e w1 ⟨A1, n1, c1, rfl, hn1, o1, hb1⟩
  have hB := (Blk.new w 30 #[.int .u64 (key : Int), .slice A vec.length c, .slice A2 note.length c2])
  have hbw : Below w.heap.size w (w.alloc (.cells #[.int .u64 (key : Int), .slice A vec.length c, .slice A2 note.length c2] 30)) := (Below.refl _ _).alloc (Nat.le_refl _) _
  have hR1 := hr.below hbw
  have hR2 := hr2.below hbw
  have hs0 : (w.alloc (.cells #[.int .u64 (key : Int), .slice A vec.length c, .slice A2 note.length c2] 30)).heap.size = w.heap.size + 1 := by simp
  have HS0 := Lib.hid hs0
  clear hs0
  generalize w.alloc (.cells #[.int .u64 (key : Int), .slice A vec.length c, .slice A2 note.length c2] 30) = w0 at *
  have HB := Lib.hid hB
  have c0 := (hB.below hb1 hB.lt).cell 1
  have c1' := (hB.below hb1 hB.lt).cell 2
  simp only [List.getElem?_toArray, List.getElem?_cons_zero, List.getElem?_cons_succ] at c0 c1'
  have hn1' : n1 = 8 := by have := hn1.out; rw [CodeM.fx_length] at this; exact this.symm
  subst hn1'
  have s01 := hb1.size
  have R1 := Lib.hid hR1
  have R2 := Lib.hid hR2
  clear hR1 hR2 hr hr2 hB
  go_wp2_with fail
  refine (refputuv_any vec.length w1 (by omega)).mono ?_
  rintro e w2 ⟨P2, n2, d2, rfl, hn2, o2, hb2⟩
  have o1' := o1.below hb2
  have hn2b : n2 ≤ 10 := by have := hn2.out; have := (CodeM.uv_length vec.length).2; omega
  have b02 := below_join hb1 hb2
  have s02 := b02.size
  clear o1 c0 c1'
  go_wp2_with (at_builtin; refine wpl_app' _ rfl (.tmp 8) (.tmp 13) rfl w0.heap.size A1 c1 (CodeM.fx 8 key) 8 rfl (CodeM.fx_length 8 key) o1' P2 d2 (CodeM.uv vec.length) n2 rfl hn2.out o2.row ?_ ?_ ?_)
  · omega
  · omega
  intro A3 c3 w3 o3 hg3 _
  have b03 : Hid (Below w0.heap.size w0 w3) := Lib.hid (o1'.grown_below (by rw [CodeM.fx_length]) hg3 b02 (Nat.le_refl _) (by omega))
  have HF1 : Hid ((CodeM.fx 8 key ++ CodeM.uv vec.length).length = 8 + n2) := Lib.hid (by rw [List.length_append, CodeM.fx_length, hn2.out])
  have HFE : Hid (ItemM.form ⟨key, vec, note⟩ = CodeM.fx 8 key ++ CodeM.uv vec.length ++ ItemM.vb vec ++ CodeM.tx note) := Lib.hid (by simp [ItemM.form])
  obtain ⟨F1, eF1⟩ : ∃ F, CodeM.fx 8 key ++ CodeM.uv vec.length = F := ⟨_, rfl⟩
  rw [eF1] at HF1 HFE o3
  have O3 := Lib.hid o3
  have hvl := Lib.hid hv
  clear o1' o2 hg3 b02 hb1 hb2 eF1 o3 hv
  go_wp2
  go_loopw [3, 4] (fun b i wr => ∃ (k : Nat) (A3 : Option Addr) (c3 : Nat), i = .int .i64 k ∧ k ≤ vec.length ∧ b = .slice A3 (8 + n2 + 4 * k) c3 ∧ Own wr w0.heap.size A3 c3 (F1 ++ ItemM.vb (vec.take k)) ∧ Below w0.heap.size w0 wr) (fun _ i _ => vec.length - (RowKit.intOf i).toNat)
  case atStart => exact ⟨0, A3, c3, rfl, by omega, rfl, by simpa [ItemM.vb] using O3.out, b03.out⟩
  case round =>
    obtain ⟨k, A4, c4, rfl, hk2, rfl, hO, hbel⟩ := hrel
    have hsz := hbel.size
    have hlen : (F1 ++ ItemM.vb (vec.take k)).length = 8 + n2 + 4 * k := by rw [List.length_append, HF1.out, ItemM.vb_length, List.length_take]; omega
    have HL := Lib.hid hlen
    have cc1 := (HB.out.below hbel HB.out.lt).cell 1
    have cc2 := (HB.out.below hbel HB.out.lt).cell 2
    simp only [List.getElem?_toArray, List.getElem?_cons_zero, List.getElem?_cons_succ] at cc1 cc2
    clear hlen
    by_cases hlt : k < vec.length
    · obtain ⟨v, hu⟩ : ∃ u, vec[k]? = some u := ⟨_, List.getElem?_eq_getElem hlt⟩
      obtain ⟨b, o, rfl, e1⟩ := row_i32 (R1.out.below hbel) hu
      have hvr := hvl.out v (List.mem_of_getElem? hu)
      have HS : Hid (ItemM.vb (vec.take (k + 1)) = ItemM.vb (vec.take k) ++ CodeM.fx 4 (ItemM.u32 v)) := Lib.hid (by rw [← ItemM.vb_snoc, List.take_add_one, hu]; rfl)
      have hm1 : (v % 4294967296) = ((ItemM.u32 v : Nat) : Int) := by unfold ItemM.u32; omega
      have hm2 : IntKind.u32.wrap v = ((ItemM.u32 v : Nat) : Int) := by rw [IntKind.wrap_u32]; exact hm1
      have hm3 := ItemM.u32_lt v
      obtain ⟨m, em⟩ : ∃ m, ItemM.u32 v = m := ⟨_, rfl⟩
      rw [em] at HS hm1 hm2 hm3
      have hm4 : IntKind.u64.wrap (m : Int) = (m : Int) := by rw [IntKind.wrap_u64]; omega
      have HO := Lib.hid hO
      have HQ := Lib.hid hbel
      clear hu em hO hbel
      go_wp2_with fail
      refine (reffixed_any m 4 wr (by omega) (by omega)).mono ?_
      rintro e w5 ⟨P5, n5, d5, rfl, hn5, o5, hb5⟩
      have o4 := HO.out.below hb5
      have hb45 := below_step HQ.out hb5 (Nat.le_refl _)
      have hs5 := hb45.size
      have hn5' : n5 = 4 := by have := hn5.out; rw [CodeM.fx_length] at this; exact this.symm
      subst hn5'
      go_wp2_with (at_builtin; refine wpl_app' _ rfl (.tmp 22) (.tmp 30) rfl w0.heap.size A4 c4 (F1 ++ ItemM.vb (vec.take k)) (8 + n2 + 4 * k) rfl HL.out o4 P5 d5 (CodeM.fx 4 m) 4 rfl (CodeM.fx_length 4 m) o5.row ?_ ?_ ?_)
      · omega
      · omega
      intro A6 c6 w6 o6 hg6 _
      have hb6 : Below w0.heap.size w0 w6 := o4.grown_below (by rw [HL.out]) hg6 hb45 (Nat.le_refl _) hs5
      clear o4 o5 hg6 hb5 hb45
      go_wp2
      go_roundw
      case rel => exact ⟨k + 1, A6, c6, by go_num, by omega, rfl, by rw [HS.out]; simpa using o6, hb6⟩
      case measure => simp [RowKit.intOf]; omega
    · obtain rfl : k = vec.length := by omega
      rw [List.take_length] at hO HL
      have HO := Lib.hid hO
      have HQ := Lib.hid hbel
      clear hO hbel
      go_wp2_with fail
      refine (reftxt_any A2 c2 note wr (R2.out.below HQ.out) (by omega)).mono ?_
      rintro e w5 ⟨P5, n5, d5, rfl, hn5, o5, hb5⟩
      have o4 := HO.out.below hb5
      have hb45 := below_step HQ.out hb5 (Nat.le_refl _)
      have hs5 := hb45.size
      have hn5' : n5 ≤ 1034 := by
        have := hn5.out
        have := (CodeM.uv_length note.length).2
        unfold CodeM.tx at *
        rw [List.length_append] at *; omega
      go_wp2_with (at_builtin; refine wpl_app' _ rfl (.tmp 32) (.tmp 35) rfl w0.heap.size A4 c4 (F1 ++ ItemM.vb vec) (8 + n2 + 4 * vec.length) rfl HL.out o4 P5 d5 (CodeM.tx note) n5 rfl hn5.out o5.row ?_ ?_ ?_)
      · omega
      · omega
      intro A6 c6 w6 o6 hg6 _
      have hb6 : Below w0.heap.size w0 w6 := o4.grown_below (by rw [HL.out]) hg6 hb45 (Nat.le_refl _) hs5
      have HN6 : Hid ((ItemM.form ⟨key, vec, note⟩).length = 8 + n2 + 4 * vec.length + n5) := Lib.hid (by rw [HFE.out, List.length_append, HL.out, hn5.out])
      clear o4 o5 hg6 hb5 hb45
      go_wp2
      go_ret
      exact ⟨A6, _, c6, rfl, HN6, by rw [HFE.out]; simpa using o6.base_ hbw.size, below_join hbw hb6⟩
theorem row_v1 (w : World) : Row (w.alloc (.cells #[.int .i32 (-1)] 21)) (some ⟨w.heap.size, 0, none⟩) (i32s [-1]) :=
  .inr ⟨w.heap.size, 0, rfl, fun j u hu => by
    rw [Nat.zero_add, Blk.cell (Blk.new w 21 #[.int .i32 (-1)]) j]
    simpa [i32s] using hu⟩
end Go.Proofs.Ytaadfalklddhcaa
/-! part -/
namespace Go.Proofs.Ytaadfalklddhcaa
open Go.RowKit Go.Sort Go.Lib
set_option linter.unusedVariables false
theorem take_next {l m : List Int} {k : Nat} {u : Int} (h : l.take k = m.take k) (h1 : l[k]? = some u) (h2 : m[k]? = some u) : l.take (k + 1) = m.take (k + 1) := by
  rw [List.take_add_one, List.take_add_one, h, h1, h2]
theorem ne_at {l m : List Int} {k : Nat} {u v : Int} (h1 : l[k]? = some u) (h2 : m[k]? = some v) (h : u ≠ v) : l ≠ m := by
  rintro rfl
  rw [h1] at h2; injection h2 with h2; exact h h2
set_option maxRecDepth 100000 in
theorem equal32_any (A B : Option Addr) (c c2 : Nat) (l m : List Int) (w : World) (hr : Row w A (i32s l)) (hr2 : Row w B (i32s m)) (hl : l.length ≤ 9223372036854775807) (hm : m.length ≤ 9223372036854775807) :
    Calls Try.prog 94 #[.slice A l.length c, .slice B m.length c2] w fun e w' => e = .returned (.bool (decide (l = m))) ∧ Below w.heap.size w w' := by
  by_cases hlen : l.length = m.length
  · have HR := Lib.hid hr
    have HR2 := Lib.hid hr2
    have HLM := Lib.hid hlen
    obtain ⟨n, hn⟩ : ∃ n, m.length = n := ⟨_, rfl⟩
    rw [hn] at hlen hm ⊢
    have HN := Lib.hid hn
    have HL := Lib.hid hlen
    rw [hlen] at hl ⊢
    clear hlen hn hr hr2
    go_enter Try.func94, Try.ntmps94
    go_wp2
    go_loopw [13] (fun i wr => ∃ k : Nat, i = .int .i64 k ∧ k ≤ n ∧ l.take k = m.take k ∧ Below w.heap.size w wr) (fun i _ => n - (RowKit.intOf i).toNat)
    case atStart => exact ⟨0, rfl, by omega, rfl, Below.refl _ _⟩
    case round =>
      obtain ⟨k, rfl, hk, heq, hbel⟩ := hrel
      have HE := Lib.hid heq
      clear heq
      by_cases hlt : k < n
      · obtain ⟨u, hu⟩ : ∃ u, l[k]? = some u := ⟨_, List.getElem?_eq_getElem (by have := HL.out; omega)⟩
        obtain ⟨v, hv⟩ : ∃ u, m[k]? = some u := ⟨_, List.getElem?_eq_getElem (by have := HN.out; omega)⟩
        obtain ⟨b1, o1, rfl, e1⟩ := row_i32 (HR.out.below hbel) hu
        obtain ⟨b2, o2, rfl, e2⟩ := row_i32 (HR2.out.below hbel) hv
        have HU := Lib.hid hu
        have HV := Lib.hid hv
        have HQ := Lib.hid hbel
        clear hu hv hbel
        by_cases huv : u = v
        · subst huv
          have HT := Lib.hid (take_next HE.out HU.out HV.out)
          go_wp2
          go_quiet (fail)
          go_wp2
          go_roundw
          case rel => exact ⟨k + 1, by go_num, by omega, HT.out, ⟨HQ.out.os, HQ.out.tape, HQ.out.output, HQ.out.size, HQ.out.block⟩⟩
          case measure => simp [RowKit.intOf]; omega
        · have hd : (u == v) = false := beq_eq_false_iff_ne.2 huv
          have HF := Lib.hid (decide_eq_false (ne_at HU.out HV.out huv))
          go_wp2
          go_quiet (fail)
          go_wp2
          go_ret
          rw [HF.out]
          exact ⟨rfl, ⟨HQ.out.os, HQ.out.tape, HQ.out.output, HQ.out.size, HQ.out.block⟩⟩
      · obtain rfl : k = n := by omega
        have HT : Hid (decide (l = m) = true) := Lib.hid (decide_eq_true (by
          have := HE.out
          rwa [List.take_of_length_le (by rw [HL.out]; omega), List.take_of_length_le (by rw [HN.out]; omega)] at this))
        go_wp2
        go_ret
        rw [HT.out]
        exact ⟨rfl, hbel⟩
  · have hne : decide (l = m) = false := decide_eq_false (fun h => hlen (by rw [h]))
    have hd : ((l.length : Int) == (m.length : Int)) = false := beq_eq_false_iff_ne.2 (by omega)
    rw [hne]
    go_enter Try.func94, Try.ntmps94
    go_wp2
    go_ret
    exact ⟨rfl, Below.refl _ _⟩
theorem str_toList (l : List UInt8) : (str l).toList = l := by rw [ByteArray.toList_eq]; rfl
theorem str_beq (l m : List UInt8) : ((str l).toList == (str m).toList) = decide (l = m) := by
  rw [str_toList, str_toList]
  by_cases h : l = m
  · subst h; simp
  · rw [decide_eq_false h]; exact beq_eq_false_iff_ne.2 h
theorem equal8_any (A B : Option Addr) (c c2 : Nat) (l m : List UInt8) (w : World) (hr : Row w A (bs l)) (hr2 : Row w B (bs m)) :
    Calls Try.prog 38 #[.slice A l.length c, .slice B m.length c2] w fun e w' => e = .returned (.bool (decide (l = m))) ∧ w = w' := by
  have s1 := run_str w c hr
  have s2 := run_str w c2 hr2
  have hd := str_beq l m
  go_enter Try.func38, Try.ntmps38
  go_wp2
  go_ret
  exact ⟨rfl, rfl⟩
set_option maxRecDepth 100000 in
theorem itemsame_any (x y : Itm) (A A2 B B2 : Option Addr) (c c2 d d2 : Nat) (w : World) (hr : Row w A (i32s x.vec)) (hr2 : Row w A2 (bs x.note)) (hs : Row w B (i32s y.vec)) (hs2 : Row w B2 (bs y.note))
    (h1 : x.vec.length ≤ 9223372036854775807) (h3 : y.vec.length ≤ 9223372036854775807) :
    Calls Try.prog 73 #[.agg #[.int .u64 (x.key : Int), .slice A x.vec.length c, .slice A2 x.note.length c2], .agg #[.int .u64 (y.key : Int), .slice B y.vec.length d, .slice B2 y.note.length d2]] w fun e w' => e = .returned (.bool (ItemM.same x y)) ∧ Below w.heap.size w w' := by
  have hsm : ItemM.same x y = (decide (x.key = y.key) && (decide (x.vec = y.vec) && decide (x.note = y.note))) := by unfold ItemM.same; simp only [Bool.decide_and]
  rw [hsm]
  clear hsm
  obtain ⟨k, vec, note⟩ := x
  obtain ⟨k2, vec2, note2⟩ := y
  dsimp only at *
  have b0 : Below w.heap.size w ((w.alloc (.cells #[.int .u64 (k : Int), .slice A vec.length c, .slice A2 note.length c2] 30)).alloc (.cells #[.int .u64 (k2 : Int), .slice B vec2.length d, .slice B2 note2.length d2] 30)) := ((Below.refl _ _).alloc (Nat.le_refl _) _).alloc (by simp) _
  have R1 := Lib.hid (hr.below b0); have R2 := Lib.hid (hr2.below b0); have S1 := Lib.hid (hs.below b0); have S2 := Lib.hid (hs2.below b0)
  have U1 := Lib.hid ((Blk.new w 30 #[.int .u64 (k : Int), .slice A vec.length c, .slice A2 note.length c2]).alloc (.cells #[.int .u64 (k2 : Int), .slice B vec2.length d, .slice B2 note2.length d2] 30))
  have U2 := Lib.hid (Blk.new (w.alloc (.cells #[.int .u64 (k : Int), .slice A vec.length c, .slice A2 note.length c2] 30)) 30 #[.int .u64 (k2 : Int), .slice B vec2.length d, .slice B2 note2.length d2])
  have e1 : (w.alloc (.cells #[.int .u64 (k : Int), .slice A vec.length c, .slice A2 note.length c2] 30)).heap.size = w.heap.size + 1 := by simp
  rw [e1] at U2
  have B0 := Lib.hid b0
  clear hr hr2 hs hs2 b0 e1
  by_cases hk : k = k2
  · subst hk
    rw [decide_eq_true rfl, Bool.true_and]
    go_enter Try.func73, Try.ntmps73
    go_wp2_with fail
    refine (equal32_any A B c d vec vec2 _ R1.out S1.out h1 h3).mono ?_
    rintro e w1 ⟨rfl, hb⟩
    have R2' := Lib.hid (R2.out.below hb)
    have S2' := Lib.hid (S2.out.below hb)
    have c1 := (U1.out.below hb U1.out.lt).cell 2
    have c2 := (U2.out.below hb U2.out.lt).cell 2
    simp only [List.getElem?_toArray, List.getElem?_cons_zero, List.getElem?_cons_succ] at c1 c2
    have B1 := Lib.hid (below_join B0.out hb)
    clear hb R1 S1 R2 S2 U1 U2 B0
    cases hv : decide (vec = vec2) with
    | false =>
      have HV := Lib.hid hv
      clear hv
      go_wp2
      go_ret
      rw [HV.out]
      exact ⟨rfl, B1.out⟩
    | true =>
      have HV := Lib.hid hv
      clear hv
      go_wp2_with fail
      refine (equal8_any A2 B2 _ _ note note2 _ R2'.out S2'.out).mono ?_
      rintro e w2 ⟨rfl, rfl⟩
      go_wp2
      go_ret
      rw [HV.out]
      exact ⟨rfl, B1.out⟩
  · rw [decide_eq_false hk, Bool.false_and]
    have hd : ((k : Int) == (k2 : Int)) = false := beq_eq_false_iff_ne.2 (by omega)
    go_enter Try.func73, Try.ntmps73
    go_wp2
    go_ret
    exact ⟨rfl, B0.out⟩
set_option maxRecDepth 100000 in
set_option maxHeartbeats 1000000 in
theorem refsame_len (k k2 n1 n2 : Nat) (vec vec2 : List Int) (note note2 : List UInt8) (A A2 B B2 : Option Addr) (c c2 d d2 : Nat) (w : World) (hr : Row w A (i32s vec)) (hr2 : Row w A2 (bs note)) (hs : Row w B (i32s vec2)) (hs2 : Row w B2 (bs note2))
    (hn1 : vec.length = n1) (hn2 : vec2.length = n2) (h1 : n1 ≤ 9223372036854775807) (h3 : n2 ≤ 9223372036854775807) :
    Calls Try.prog 43 #[.agg #[.int .u64 (k : Int), .slice A n1 c, .slice A2 note.length c2], .agg #[.int .u64 (k2 : Int), .slice B n2 d, .slice B2 note2.length d2]] w fun e w' => e = .returned (.bool (decide (k = k2) && (decide (vec = vec2) && decide (note = note2)))) ∧ Below w.heap.size w w' := by
  have b0 : Below w.heap.size w ((w.alloc (.cells #[.int .u64 (k : Int), .slice A n1 c, .slice A2 note.length c2] 30)).alloc (.cells #[.int .u64 (k2 : Int), .slice B n2 d, .slice B2 note2.length d2] 30)) := ((Below.refl _ _).alloc (Nat.le_refl _) _).alloc (by simp) _
  have R1 := Lib.hid (hr.below b0); have S1 := Lib.hid (hs.below b0)
  have s1 := run_str _ c2 (hr2.below b0)
  have s2 := run_str _ d2 (hs2.below b0)
  have hb := str_beq note note2
  have B0 := Lib.hid b0
  have N1 := Lib.hid hn1
  have N2 := Lib.hid hn2
  clear hr hr2 hs hs2 b0 hn1 hn2
  by_cases hk : k = k2
  · subst hk
    rw [decide_eq_true rfl, Bool.true_and]
    by_cases hlen : n1 = n2
    · subst hlen
      cases hn : decide (note = note2) with
      | false =>
        have HN := Lib.hid hn
        rw [hn] at hb
        go_enter Try.func43, Try.ntmps43
        go_wp2
        go_ret
        rw [Bool.and_false]
        exact ⟨rfl, B0.out⟩
      | true =>
        have HN := Lib.hid hn
        rw [hn] at hb
        have U1 := Lib.hid ((Blk.new w 30 #[.int .u64 (k : Int), .slice A n1 c, .slice A2 note.length c2]).alloc (.cells #[.int .u64 (k : Int), .slice B n1 d, .slice B2 note2.length d2] 30))
        have U2 := Lib.hid (Blk.new (w.alloc (.cells #[.int .u64 (k : Int), .slice A n1 c, .slice A2 note.length c2] 30)) 30 #[.int .u64 (k : Int), .slice B n1 d, .slice B2 note2.length d2])
        have e1 : (w.alloc (.cells #[.int .u64 (k : Int), .slice A n1 c, .slice A2 note.length c2] 30)).heap.size = w.heap.size + 1 := by simp
        rw [e1] at U2
        go_enter Try.func43, Try.ntmps43
        go_wp2
        clear s1 s2 hb hn e1
        generalize (w.alloc (.cells #[.int .u64 (k : Int), .slice A n1 c, .slice A2 note.length c2] 30)).alloc (.cells #[.int .u64 (k : Int), .slice B n1 d, .slice B2 note2.length d2] 30) = w0 at *
        go_loopw [5] (fun i wr => ∃ j : Nat, i = .int .i64 j ∧ j ≤ n1 ∧ vec.take j = vec2.take j ∧ Below w0.heap.size w0 wr) (fun i _ => n1 - (RowKit.intOf i).toNat)
        case atStart => exact ⟨0, rfl, by omega, rfl, Below.refl _ _⟩
        case round =>
          obtain ⟨j, rfl, hj, heq, hbel⟩ := hrel
          have HE := Lib.hid heq
          have c1 := (U1.out.below hbel U1.out.lt).cell 1
          have c2 := (U2.out.below hbel U2.out.lt).cell 1
          simp only [List.getElem?_toArray, List.getElem?_cons_zero, List.getElem?_cons_succ] at c1 c2
          clear heq
          by_cases hlt : j < n1
          · obtain ⟨u, hu⟩ : ∃ u, vec[j]? = some u := ⟨_, List.getElem?_eq_getElem (by have := N1.out; omega)⟩
            obtain ⟨v, hv⟩ : ∃ u, vec2[j]? = some u := ⟨_, List.getElem?_eq_getElem (by have := N2.out; omega)⟩
            obtain ⟨b1, o1, rfl, e1⟩ := row_i32 (R1.out.below hbel) hu
            obtain ⟨b2, o2, rfl, e2⟩ := row_i32 (S1.out.below hbel) hv
            have HU := Lib.hid hu
            have HV := Lib.hid hv
            have HQ := Lib.hid hbel
            clear hu hv hbel
            by_cases huv : u = v
            · subst huv
              have HT := Lib.hid (take_next HE.out HU.out HV.out)
              go_wp2
              go_quiet (fail)
              go_wp2
              go_roundw
              case rel => exact ⟨j + 1, by go_num, by omega, HT.out, ⟨HQ.out.os, HQ.out.tape, HQ.out.output, HQ.out.size, HQ.out.block⟩⟩
              case measure => simp [RowKit.intOf]; omega
            · have hd : (u == v) = false := beq_eq_false_iff_ne.2 huv
              have HF := Lib.hid (decide_eq_false (ne_at HU.out HV.out huv))
              have HQ2 := Lib.hid (below_join B0.out HQ.out)
              go_wp2
              go_quiet (fail)
              go_wp2
              go_ret
              rw [HF.out, Bool.false_and]
              exact ⟨rfl, ⟨HQ2.out.os, HQ2.out.tape, HQ2.out.output, HQ2.out.size, HQ2.out.block⟩⟩
          · obtain rfl : j = n1 := by omega
            have HT : Hid (decide (vec = vec2) = true) := Lib.hid (decide_eq_true (by
              have := HE.out
              rwa [List.take_of_length_le (by rw [N1.out]; omega), List.take_of_length_le (by rw [N2.out]; omega)] at this))
            go_wp2
            go_ret
            rw [HT.out]
            exact ⟨rfl, below_join B0.out hbel⟩
    · have hne : decide (vec = vec2) = false := decide_eq_false (fun h => hlen (by rw [← N1.out, ← N2.out, h]))
      have hd : ((n1 : Int) == (n2 : Int)) = false := beq_eq_false_iff_ne.2 (by omega)
      rw [hne, Bool.false_and]
      go_enter Try.func43, Try.ntmps43
      go_wp2
      go_ret
      exact ⟨rfl, B0.out⟩
  · rw [decide_eq_false hk, Bool.false_and]
    have hd : ((k : Int) == (k2 : Int)) = false := beq_eq_false_iff_ne.2 (by omega)
    go_enter Try.func43, Try.ntmps43
    go_wp2
    go_ret
    exact ⟨rfl, B0.out⟩
theorem refsame_any (x y : Itm) (A A2 B B2 : Option Addr) (c c2 d d2 : Nat) (w : World) (hr : Row w A (i32s x.vec)) (hr2 : Row w A2 (bs x.note)) (hs : Row w B (i32s y.vec)) (hs2 : Row w B2 (bs y.note))
    (h1 : x.vec.length ≤ 9223372036854775807) (h3 : y.vec.length ≤ 9223372036854775807) :
    Calls Try.prog 43 #[.agg #[.int .u64 (x.key : Int), .slice A x.vec.length c, .slice A2 x.note.length c2], .agg #[.int .u64 (y.key : Int), .slice B y.vec.length d, .slice B2 y.note.length d2]] w fun e w' => e = .returned (.bool (ItemM.same x y)) ∧ Below w.heap.size w w' := by
  have hsm : ItemM.same x y = (decide (x.key = y.key) && (decide (x.vec = y.vec) && decide (x.note = y.note))) := by unfold ItemM.same; simp only [Bool.decide_and]
  rw [hsm]
  exact refsame_len x.key y.key x.vec.length y.vec.length x.vec y.vec x.note y.note A A2 B B2 c c2 d d2 w hr hr2 hs hs2 rfl rfl h1 h3
end Go.Proofs.Ytaadfalklddhcaa
