/-
  The size of a record's form, the form of one that may not be, the form by the document, the law's known answer.
  Conditions: the record's lists lie in memory; their lengths are bounded.
-/
import Derived.Test.YtaadfalklddhcaaItemW2
namespace Go.Proofs.Ytaadfalklddhcaa
open Go.RowKit Go.Sort Go.Lib
set_option linter.unusedVariables false
set_option maxRecDepth 100000 in
theorem itembytes_no (x : Itm) (A A2 : Option Addr) (c c2 : Nat) (w : World) (hl : x.vec.length ≤ 9223372036854775807) (hl2 : x.note.length ≤ 9223372036854775807) (h : ItemM.may x ≠ 0) :
    Calls Try.prog 61 #[.agg #[.int .u64 (x.key : Int), .slice A x.vec.length c, .slice A2 x.note.length c2]] w fun e w' => e = .returned (.tuple #[.slice none 0 0, .int .i64 (ItemM.may x : Int)]) ∧ Below w.heap.size w w' := by
  have hm := (may_any (x.key : Int) A A2 x.vec.length c x.note.length c2 (w.alloc (.cells #[.int .u64 (x.key : Int), .slice A x.vec.length c, .slice A2 x.note.length c2] 30)) hl hl2)
  change Calls _ _ _ _ fun e w' => e = .returned (.int .i64 (ItemM.may x : Int)) ∧ _ at hm
  obtain ⟨q, hq⟩ : ∃ q, ItemM.may x = q := ⟨_, rfl⟩
  rw [hq] at hm h ⊢
  clear hq
  have hq : ((q : Int) == 0) = false := beq_eq_false_iff_ne.2 (by omega)
  go_enter Try.func61, Try.ntmps61
  go_wp2_with fail
  refine hm.mono ?_
  rintro e w1 ⟨rfl, hb1⟩
  go_wp2
  go_ret2
  exact ⟨rfl, below_step ((Below.refl w.heap.size w).alloc (Nat.le_refl _) _) hb1 (Nat.le_refl _)⟩
set_option maxRecDepth 100000 in
theorem refform_any (x : Itm) (A A2 : Option Addr) (c c2 : Nat) (w : World) (hk : x.key < 18446744073709551616) (hv : ∀ v ∈ x.vec, -2147483648 ≤ v ∧ v < 2147483648)
    (hr : Row w A (i32s x.vec)) (hr2 : Row w A2 (bs x.note)) (h2 : x.vec.length ≤ 4096) (h3 : x.note.length ≤ 1024) :
    Calls Try.prog 79 #[.agg #[.int .u64 (x.key : Int), .slice A x.vec.length c, .slice A2 x.note.length c2]] w (NewB (ItemM.form x) w) := by
  obtain ⟨key, vec, note⟩ := x
  dsimp only at *
  have hwv : IntKind.u64.wrap (vec.length : Int) = (vec.length : Int) := by rw [IntKind.wrap_u64]; omega
  go_enter Try.func79, Try.ntmps79
  go_wp2_with fail
  refine (reffixed_any key 8 _ hk (by omega)).mono ?_
  rintro e w1 ⟨A1, n1, c1, rfl, hn1, o1, hb1⟩
  have hB := (Blk.new w 30 #[.int .u64 (key : Int), .slice A vec.length c, .slice A2 note.length c2])
  have hbw : Below w.heap.size w (w.alloc (.cells #[.int .u64 (key : Int), .slice A vec.length c, .slice A2 note.length c2] 30)) := (Below.refl _ _).alloc (Nat.le_refl _) _
  have hR1 := hr.below hbw
  have hR2 := hr2.below hbw
  have hs0 : (w.alloc (.cells #[.int .u64 (key : Int), .slice A vec.length c, .slice A2 note.length c2] 30)).heap.size = w.heap.size + 1 := by simp
  have HS0 := Lib.hid hs0
  clear hs0
  generalize w.alloc (.cells #[.int .u64 (key : Int), .slice A vec.length c, .slice A2 note.length c2] 30) = w0 at *
  have HB := Lib.hid hB
  have c0 := (hB.below hb1 hB.lt).cell 1
  have c1' := (hB.below hb1 hB.lt).cell 2
  simp only [List.getElem?_toArray, List.getElem?_cons_zero, List.getElem?_cons_succ] at c0 c1'
  have hn1' : n1 = 8 := by have := hn1.out; rw [CodeM.fx_length] at this; exact this.symm
  subst hn1'
  have s01 := hb1.size
  have R1 := Lib.hid hR1
  have R2 := Lib.hid hR2
  clear hR1 hR2 hr hr2 hB
  go_wp2_with fail
  refine (refputuv_any vec.length w1 (by omega)).mono ?_
  rintro e w2 ⟨P2, n2, d2, rfl, hn2, o2, hb2⟩
  have o1' := o1.below hb2
  have hn2b : n2 ≤ 10 := by have := hn2.out; have := (CodeM.uv_length vec.length).2; omega
  have b02 := below_join hb1 hb2
  have s02 := b02.size
  clear o1 c0 c1'
  go_wp2_with (at_builtin; refine wpl_app' _ rfl (.tmp 8) (.tmp 13) rfl w0.heap.size A1 c1 (CodeM.fx 8 key) 8 rfl (CodeM.fx_length 8 key) o1' P2 d2 (CodeM.uv vec.length) n2 rfl hn2.out o2.row ?_ ?_ ?_)
  · omega
  · omega
  intro A3 c3 w3 o3 hg3 _
  have b03 : Hid (Below w0.heap.size w0 w3) := Lib.hid (o1'.grown_below (by rw [CodeM.fx_length]) hg3 b02 (Nat.le_refl _) (by omega))
  have HF1 : Hid ((CodeM.fx 8 key ++ CodeM.uv vec.length).length = 8 + n2) := Lib.hid (by rw [List.length_append, CodeM.fx_length, hn2.out])
  have HFE : Hid (ItemM.form ⟨key, vec, note⟩ = CodeM.fx 8 key ++ CodeM.uv vec.length ++ ItemM.vb vec ++ CodeM.tx note) := Lib.hid (by simp [ItemM.form])
  obtain ⟨F1, eF1⟩ : ∃ F, CodeM.fx 8 key ++ CodeM.uv vec.length = F := ⟨_, rfl⟩
  rw [eF1] at HF1 HFE o3
  have O3 := Lib.hid o3
  have hvl := Lib.hid hv
  clear o1' o2 hg3 b02 hb1 hb2 eF1 o3 hv
  go_wp2
  go_loopw [3, 4] (fun b i wr => ∃ (k : Nat) (A3 : Option Addr) (c3 : Nat), i = .int .i64 k ∧ k ≤ vec.length ∧ b = .slice A3 (8 + n2 + 4 * k) c3 ∧ Own wr w0.heap.size A3 c3 (F1 ++ ItemM.vb (vec.take k)) ∧ Below w0.heap.size w0 wr) (fun _ i _ => vec.length - (RowKit.intOf i).toNat)
  case atStart => exact ⟨0, A3, c3, rfl, by omega, rfl, by simpa [ItemM.vb] using O3.out, b03.out⟩
  case round =>
    obtain ⟨k, A4, c4, rfl, hk2, rfl, hO, hbel⟩ := hrel
    have hsz := hbel.size
    have hlen : (F1 ++ ItemM.vb (vec.take k)).length = 8 + n2 + 4 * k := by rw [List.length_append, HF1.out, ItemM.vb_length, List.length_take]; omega
    have HL := Lib.hid hlen
    have cc1 := (HB.out.below hbel HB.out.lt).cell 1
    have cc2 := (HB.out.below hbel HB.out.lt).cell 2
    simp only [List.getElem?_toArray, List.getElem?_cons_zero, List.getElem?_cons_succ] at cc1 cc2
    clear hlen
    by_cases hlt : k < vec.length
    · obtain ⟨v, hu⟩ : ∃ u, vec[k]? = some u := ⟨_, List.getElem?_eq_getElem hlt⟩
      obtain ⟨b, o, rfl, e1⟩ := row_i32 (R1.out.below hbel) hu
      have hvr := hvl.out v (List.mem_of_getElem? hu)
      have HS : Hid (ItemM.vb (vec.take (k + 1)) = ItemM.vb (vec.take k) ++ CodeM.fx 4 (ItemM.u32 v)) := Lib.hid (by rw [← ItemM.vb_snoc, List.take_add_one, hu]; rfl)
      have hm1 : (v % 4294967296) = ((ItemM.u32 v : Nat) : Int) := by unfold ItemM.u32; omega
      have hm2 : IntKind.u32.wrap v = ((ItemM.u32 v : Nat) : Int) := by rw [IntKind.wrap_u32]; exact hm1
      have hm3 := ItemM.u32_lt v
      obtain ⟨m, em⟩ : ∃ m, ItemM.u32 v = m := ⟨_, rfl⟩
      rw [em] at HS hm1 hm2 hm3
      have hm4 : IntKind.u64.wrap (m : Int) = (m : Int) := by rw [IntKind.wrap_u64]; omega
      have HO := Lib.hid hO
      have HQ := Lib.hid hbel
      clear hu em hO hbel
      go_wp2_with fail
      refine (reffixed_any m 4 wr (by omega) (by omega)).mono ?_
      rintro e w5 ⟨P5, n5, d5, rfl, hn5, o5, hb5⟩
      have o4 := HO.out.below hb5
      have hb45 := below_step HQ.out hb5 (Nat.le_refl _)
      have hs5 := hb45.size
      have hn5' : n5 = 4 := by have := hn5.out; rw [CodeM.fx_length] at this; exact this.symm
      subst hn5'
      go_wp2_with (at_builtin; refine wpl_app' _ rfl (.tmp 22) (.tmp 30) rfl w0.heap.size A4 c4 (F1 ++ ItemM.vb (vec.take k)) (8 + n2 + 4 * k) rfl HL.out o4 P5 d5 (CodeM.fx 4 m) 4 rfl (CodeM.fx_length 4 m) o5.row ?_ ?_ ?_)
      · omega
      · omega
      intro A6 c6 w6 o6 hg6 _
      have hb6 : Below w0.heap.size w0 w6 := o4.grown_below (by rw [HL.out]) hg6 hb45 (Nat.le_refl _) hs5
      clear o4 o5 hg6 hb5 hb45
      go_wp2
      go_roundw
      case rel => exact ⟨k + 1, A6, c6, by go_num, by omega, rfl, by rw [HS.out]; simpa using o6, hb6⟩
      case measure => simp [RowKit.intOf]; omega
    · obtain rfl : k = vec.length := by omega
      rw [List.take_length] at hO HL
      have HO := Lib.hid hO
      have HQ := Lib.hid hbel
      clear hO hbel
      go_wp2_with fail
      refine (reftxt_any A2 c2 note wr (R2.out.below HQ.out) (by omega)).mono ?_
      rintro e w5 ⟨P5, n5, d5, rfl, hn5, o5, hb5⟩
      have o4 := HO.out.below hb5
      have hb45 := below_step HQ.out hb5 (Nat.le_refl _)
      have hs5 := hb45.size
      have hn5' : n5 ≤ 1034 := by
        have := hn5.out
        have := (CodeM.uv_length note.length).2
        unfold CodeM.tx at *
        rw [List.length_append] at *; omega
      go_wp2_with (at_builtin; refine wpl_app' _ rfl (.tmp 32) (.tmp 35) rfl w0.heap.size A4 c4 (F1 ++ ItemM.vb vec) (8 + n2 + 4 * vec.length) rfl HL.out o4 P5 d5 (CodeM.tx note) n5 rfl hn5.out o5.row ?_ ?_ ?_)
      · omega
      · omega
      intro A6 c6 w6 o6 hg6 _
      have hb6 : Below w0.heap.size w0 w6 := o4.grown_below (by rw [HL.out]) hg6 hb45 (Nat.le_refl _) hs5
      have HN6 : Hid ((ItemM.form ⟨key, vec, note⟩).length = 8 + n2 + 4 * vec.length + n5) := Lib.hid (by rw [HFE.out, List.length_append, HL.out, hn5.out])
      clear o4 o5 hg6 hb5 hb45
      go_wp2
      go_ret
      exact ⟨A6, _, c6, rfl, HN6, by rw [HFE.out]; simpa using o6.base_ hbw.size, below_join hbw hb6⟩
theorem row_v1 (w : World) : Row (w.alloc (.cells #[.int .i32 (-1)] 21)) (some ⟨w.heap.size, 0, none⟩) (i32s [-1]) :=
  .inr ⟨w.heap.size, 0, rfl, fun j u hu => by
    rw [Nat.zero_add, Blk.cell (Blk.new w 21 #[.int .i32 (-1)]) j]
    simpa [i32s] using hu⟩
end Go.Proofs.Ytaadfalklddhcaa
