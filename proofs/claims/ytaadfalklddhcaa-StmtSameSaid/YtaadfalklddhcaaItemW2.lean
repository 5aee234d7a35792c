/-
  What the form of a record is by the program.
  Conditions: the record's lists lie in memory; their lengths are bounded.
-/
import Derived.Test.YtaadfalklddhcaaItemJ
import Derived.Deep.RegionHeld3
namespace Go.Proofs.Ytaadfalklddhcaa
open Go.RowKit Go.Sort Go.Lib
set_option linter.unusedVariables false
def i32s (l : List Int) : List Value := l.map (Value.int .i32)
theorem row_i32 {w : World} {A : Option Addr} {l : List Int} (h : Row w A (i32s l)) {k : Nat} {v : Int} (hv : l[k]? = some v) : ∃ b o, A = some ⟨b, o, none⟩ ∧ w.cell? ⟨b, o + k, none⟩ = some (.int .i32 v) := by
  rcases h with h | ⟨b, o, e, hc⟩
  · have : l = [] := List.map_eq_nil_iff.1 h
    subst this; simp at hv
  · exact ⟨b, o, e, hc k _ (by unfold i32s; rw [List.getElem?_map, hv]; rfl)⟩
theorem byte_int (m p : Nat) : (m : Int) / (p : Int) % 256 = ((CodeM.byte (m / p % 256)).toNat : Int) := by
  rw [CodeM.ofNat_toNat _ (Nat.mod_lt _ (by omega))]; omega
theorem byte_low (m : Nat) : (m : Int) % 256 = ((CodeM.byte (m / 256 ^ 0 % 256)).toNat : Int) := by
  rw [show (256 : Nat) ^ 0 = 1 from rfl, CodeM.ofNat_toNat _ (Nat.mod_lt _ (by omega))]; omega
theorem byte_top (m : Nat) (h : m < 4294967296) : (m : Int) / 16777216 = ((CodeM.byte (m / 256 ^ 3 % 256)).toNat : Int) := by
  rw [show (256 : Nat) ^ 3 = 16777216 from rfl, CodeM.ofNat_toNat _ (Nat.mod_lt _ (by omega))]; omega
theorem parts4 (w : World) (A1 A2 A3 A4 : Option Addr) (n1 c1 n2 c2 n3 c3 n4 c4 : Nat) (l1 l2 l3 l4 : List UInt8) (e1 : l1.length = n1) (e2 : l2.length = n2) (e3 : l3.length = n3) (e4 : l4.length = n4)
    (r1 : Row w A1 (bs l1)) (r2 : Row w A2 (bs l2)) (r3 : Row w A3 (bs l3)) (r4 : Row w A4 (bs l4)) :
    Lib.PartsAt (w.alloc (.cells #[.slice A1 n1 c1, .slice A2 n2 c2, .slice A3 n3 c3, .slice A4 n4 c4] 22)) ⟨w.heap.size, 0, none⟩ [.slice A1 n1 c1, .slice A2 n2 c2, .slice A3 n3 c3, .slice A4 n4 c4] [l1, l2, l3, l4] := by
  refine ⟨rfl, fun i v hv => ?_, fun i v l hv hl => ?_⟩
  · rw [Addr.add_lit, Nat.zero_add, Blk.cell (Blk.new w 22 #[.slice A1 n1 c1, .slice A2 n2 c2, .slice A3 n3 c3, .slice A4 n4 c4]) i, List.getElem?_toArray]
    exact hv
  · match i with
    | 0 => simp at hv hl; subst hv hl; exact holds_of_row n1 c1 e1 (r1.alloc _)
    | 1 => simp at hv hl; subst hv hl; exact holds_of_row n2 c2 e2 (r2.alloc _)
    | 2 => simp at hv hl; subst hv hl; exact holds_of_row n3 c3 e3 (r3.alloc _)
    | 3 => simp at hv hl; subst hv hl; exact holds_of_row n4 c4 e4 (r4.alloc _)
    | i + 4 => simp at hv
theorem row_4 (w : World) (a b c d : Int) (m : Nat) (h0 : a = ((CodeM.byte (m / 256 ^ 0 % 256)).toNat : Int)) (h1 : b = ((CodeM.byte (m / 256 ^ 1 % 256)).toNat : Int)) (h2 : c = ((CodeM.byte (m / 256 ^ 2 % 256)).toNat : Int)) (h3 : d = ((CodeM.byte (m / 256 ^ 3 % 256)).toNat : Int)) :
    Row (w.alloc (.cells #[.int .u8 a, .int .u8 b, .int .u8 c, .int .u8 d] 5)) (some ⟨w.heap.size, 0, none⟩) (bs (CodeM.fx 4 m)) := by
  subst h0 h1 h2 h3
  exact row_lit w (CodeM.fx 4 m) _ _ _ rfl
set_option maxRecDepth 100000 in
set_option maxHeartbeats 8000000 in
theorem itembytes_ok (x : Itm) (A A2 : Option Addr) (c c2 : Nat) (w : World) (hk : x.key < 18446744073709551616) (hv : ∀ v ∈ x.vec, -2147483648 ≤ v ∧ v < 2147483648)
    (hr : Row w A (i32s x.vec)) (hr2 : Row w A2 (bs x.note)) (h1 : 1 ≤ x.vec.length) (h2 : x.vec.length ≤ 4096) (h3 : x.note.length ≤ 1024) :
    Calls Try.prog 61 #[.agg #[.int .u64 (x.key : Int), .slice A x.vec.length c, .slice A2 x.note.length c2]] w fun e w' => ∃ v, e = .returned (.tuple #[v, .int .i64 0]) ∧ NewF (ItemM.form x) w v w' := by
  obtain ⟨key, vec, note⟩ := x
  dsimp only at *
  have hflat : [CodeM.fx 8 key, CodeM.uv vec.length, ItemM.vb vec, CodeM.tx note].flatten ≠ [] := by
    have := ItemM.form_ne ⟨key, vec, note⟩
    simpa [ItemM.form] using this
  have hlens : Lib.lens [CodeM.fx 8 key, CodeM.uv vec.length, ItemM.vb vec, CodeM.tx note] ≤ 140737488355328 := by
    have g1 := (CodeM.uv_length vec.length).2
    have g2 := (CodeM.uv_length note.length).2
    unfold CodeM.tx
    simp [Lib.lens, CodeM.fx_length, ItemM.vb_length]; omega
  go_enter Try.func61, Try.ntmps61
  go_wp2_with fail
  refine (may_any (key : Int) A A2 vec.length c note.length c2 _ (by omega) (by omega)).mono ?_
  rw [if_neg (by omega), if_neg (by omega)]
  rintro e w1 ⟨rfl, hb1⟩
  have hB := (Blk.new w 30 #[.int .u64 (key : Int), .slice A vec.length c, .slice A2 note.length c2]).below hb1 (by simp)
  have b1 : Below w.heap.size w w1 := below_step ((Below.refl w.heap.size w).alloc (Nat.le_refl _) _) hb1 (Nat.le_refl _)
  have s1 : w.heap.size < w1.heap.size := hB.lt
  have c0 := hB.cell 0
  have c1 := hB.cell 1
  have c2' := hB.cell 2
  simp only [List.getElem?_toArray, List.getElem?_cons_zero, List.getElem?_cons_succ] at c0 c1 c2'
  have HB := Lib.hid hB
  have R1 := Lib.hid (hr.below b1)
  have R2 := Lib.hid (hr2.below b1)
  clear hb1 hr hr2 hB
  go_wp2_with (at_make; refine wpl_make2 _ rfl (.const (.int .i64 0)) (.tmp 17) rfl 0 (4 * vec.length) rfl (by go_num) (by omega) (by omega) ?_)
  have O1 : Hid (Own (w1.alloc (.cells (bs (List.replicate (4 * vec.length) 0)).toArray 5)) w1.heap.size (some ⟨w1.heap.size, 0, none⟩) (4 * vec.length) []) := Lib.hid (Own.made w1 _ _ (Nat.le_refl _) (by unfold maxLen; omega) (by rw [List.size_toArray, bs_length, List.length_replicate]))
  have B1 : Hid (Below w1.heap.size w1 (w1.alloc (.cells (bs (List.replicate (4 * vec.length) 0)).toArray 5))) := Lib.hid ((Below.refl _ _).alloc (Nat.le_refl _) _)
  generalize w1.alloc (.cells (bs (List.replicate (4 * vec.length) 0)).toArray 5) = w2 at *
  have hvl := Lib.hid hv
  clear hv
  go_loopw [5, 22] (fun b i wr => ∃ (k : Nat) (A3 : Option Addr) (c3 : Nat), i = .int .i64 k ∧ k ≤ vec.length ∧ b = .slice A3 (4 * k) c3 ∧ Own wr w1.heap.size A3 c3 (ItemM.vb (vec.take k)) ∧ Below w1.heap.size w1 wr) (fun _ i _ => vec.length - (RowKit.intOf i).toNat)
  case atStart => exact ⟨0, _, _, rfl, by omega, rfl, O1.out, B1.out⟩
  case round =>
    obtain ⟨k, A3, c3, rfl, hk2, rfl, hO, hbel⟩ := hrel
    have hsz := hbel.size
    have hlen : (ItemM.vb (vec.take k)).length = 4 * k := by rw [ItemM.vb_length, List.length_take]; omega
    have HL := Lib.hid hlen
    clear hlen
    by_cases hlt : k < vec.length
    · obtain ⟨v, hu⟩ : ∃ u, vec[k]? = some u := ⟨_, List.getElem?_eq_getElem hlt⟩
      obtain ⟨b, o, rfl, e1⟩ := row_i32 (R1.out.below hbel) hu
      have hvr := hvl.out v (List.mem_of_getElem? hu)
      have HS : Hid (ItemM.vb (vec.take (k + 1)) = ItemM.vb (vec.take k) ++ CodeM.fx 4 (ItemM.u32 v)) := Lib.hid (by rw [← ItemM.vb_snoc, List.take_add_one, hu]; rfl)
      have hm1 : (v % 4294967296) = ((ItemM.u32 v : Nat) : Int) := by unfold ItemM.u32; omega
      have hm2 : IntKind.u32.wrap v = ((ItemM.u32 v : Nat) : Int) := by rw [IntKind.wrap_u32]; exact hm1
      have hm3 := ItemM.u32_lt v
      obtain ⟨m, em⟩ : ∃ m, ItemM.u32 v = m := ⟨_, rfl⟩
      rw [em] at HS hm1 hm2 hm3
      clear hu em
      go_wp2_with (at_builtin; refine wpl_app' _ rfl (.tmp 28) (.tmp 40) rfl w1.heap.size A3 c3 (ItemM.vb (vec.take k)) (4 * k) rfl HL.out (hO.alloc _) (some ⟨wr.heap.size, 0, none⟩) 4 (CodeM.fx 4 m) 4 rfl (CodeM.fx_length 4 m) (row_4 wr _ _ _ _ m ?_ ?_ ?_ ?_) ?_ ?_ ?_)
      · exact byte_low m
      · exact byte_int m 256
      · exact byte_int m 65536
      · exact byte_top m hm3
      · omega
      · simp; omega
      intro A4 c4 w4 h4 hg4 _
      have hb4 : Below w1.heap.size w1 w4 := (hO.alloc _).grown_below (by rw [HL.out]) hg4 (hbel.alloc hsz _) (Nat.le_refl _) (by simp; omega)
      go_wp2
      go_roundw
      case rel => exact ⟨k + 1, A4, c4, by go_num, by omega, rfl, by rw [HS.out]; exact h4, hb4⟩
      case measure => simp [RowKit.intOf]; omega
    · obtain rfl : k = vec.length := by omega
      rw [List.take_length] at HL hO
      have hwv : IntKind.u64.wrap (vec.length : Int) = (vec.length : Int) := by rw [IntKind.wrap_u64]; omega
      have P64 : Hid (∀ W, Calls Try.prog 101 #[.slice none 0 0, .int .u64 (key : Int)] W (NewB (CodeM.fx 8 key) W)) := Lib.hid (fun W => Put64_any none 0 key [] W (.inl rfl) (by simp) hk)
      have PUV : Hid (∀ W, Calls Try.prog 103 #[.slice none 0 0, .int .u64 (vec.length : Int)] W (NewB (CodeM.uv vec.length) W)) := Lib.hid (fun W => putuv_any none 0 vec.length [] W (.inl rfl) (by simp) (by omega))
      have PTX : Hid (∀ W, Row W A2 (bs note) → Calls Try.prog 106 #[.slice none 0 0, .slice A2 note.length c2] W (NewB (CodeM.tx note) W)) := Lib.hid (fun W h => PutText_any none A2 0 c2 [] note W (.inl rfl) h (by simp; omega))
      have HK : Hid (∀ w', Below wr.heap.size wr w' → w'.cell? ⟨w.heap.size, 0, none⟩ = some (.int .u64 (key : Int)) ∧ w'.cell? ⟨w.heap.size, 1, none⟩ = some (.slice A vec.length c) ∧ w'.cell? ⟨w.heap.size, 2, none⟩ = some (.slice A2 note.length c2) ∧ Below wr.heap.size wr w') := Lib.hid (by
        intro w' hb
        have h := below_join hbel hb
        exact ⟨cell_below h c0, cell_below h c1, cell_below h c2', hb⟩)
      have BB : Hid (Below wr.heap.size wr wr.drew) := Lib.hid ⟨rfl, rfl, rfl, Nat.le_refl _, fun _ _ => rfl⟩
      have Q3 : Hid (Row wr.drew A3 (bs (ItemM.vb vec))) := Lib.hid hO.row
      have Q5 : Hid (Row wr.drew A2 (bs note)) := Lib.hid (R2.out.below hbel).drew
      have BW : Hid (Below w.heap.size w wr) := Lib.hid (below_join b1 hbel)
      clear hO hbel c0 c1 c2' b1 R1 R2 HB O1 B1
      go_wp2
      go_region_held3 (fun w' => w'.cell? ⟨w.heap.size, 0, none⟩ = some (.int .u64 (key : Int)) ∧ w'.cell? ⟨w.heap.size, 1, none⟩ = some (.slice A vec.length c) ∧ w'.cell? ⟨w.heap.size, 2, none⟩ = some (.slice A2 note.length c2) ∧ Below wr.heap.size wr w')
        (first | exact HK.out _ BE.out | exact HK.out _ BB.out | exact HK.out _ (BB.out.alloc BB.out.size _))
        (first
          | (go_at_call 101
             refine (P64.out _).mono ?_
             rintro e wa ⟨P1, m1, d1, rfl, pe1, po1, pb1⟩
             have Q1 := Lib.hid po1.row
             try replace Q2 := Lib.hid (Q2.out.below pb1)
             try replace Q4 := Lib.hid (Q4.out.below pb1)
             replace Q3 := Lib.hid (Q3.out.below pb1)
             replace Q5 := Lib.hid (Q5.out.below pb1)
             replace BB := Lib.hid (below_join BB.out pb1)
             clear po1 pb1)
          | (go_at_call 103
             refine (PUV.out _).mono ?_
             rintro e wb ⟨P2, m2, d2, rfl, pe2, po2, pb2⟩
             have Q2 := Lib.hid po2.row
             try replace Q1 := Lib.hid (Q1.out.below pb2)
             try replace Q4 := Lib.hid (Q4.out.below pb2)
             replace Q3 := Lib.hid (Q3.out.below pb2)
             replace Q5 := Lib.hid (Q5.out.below pb2)
             replace BB := Lib.hid (below_join BB.out pb2)
             clear po2 pb2)
          | (go_at_call 106
             refine (PTX.out _ Q5.out).mono ?_
             rintro e wd ⟨P4, m4, d4, rfl, pe4, po4, pb4⟩
             have Q4 := Lib.hid po4.row
             try replace Q1 := Lib.hid (Q1.out.below pb4)
             try replace Q2 := Lib.hid (Q2.out.below pb4)
             replace Q3 := Lib.hid (Q3.out.below pb4)
             replace Q5 := Lib.hid (Q5.out.below pb4)
             replace BB := Lib.hid (below_join BB.out pb4)
             clear po4 pb4)
          | (go_at_call 110
             refine (join_any _ 4 _ [CodeM.fx 8 key, CodeM.uv vec.length, ItemM.vb vec, CodeM.tx note] _ rfl (by omega) (parts4 _ _ _ _ _ _ _ _ _ _ _ _ _ _ _ _ _ pe1.out pe2.out HL.out pe4.out Q1.out Q2.out Q3.out Q4.out) hlens (by omega) hflat).mono ?_
             rintro e we ⟨V, rfl, VF⟩
             have BF := Lib.hid (below_join BB.out ((Below.refl _ _).alloc (Nat.le_refl _) (.cells #[.slice P1 m1 d1, .slice P2 m2 d2, .slice A3 (4 * vec.length) c3, .slice P4 m4 d4] 22)))
             have BE := Lib.hid (below_join BF.out VF.bel)))
      all_goals go_wp2
      all_goals go_ret2
      all_goals exact ⟨V, rfl, (VF.base (below_join BW.out BF.out)).form4⟩
end Go.Proofs.Ytaadfalklddhcaa
