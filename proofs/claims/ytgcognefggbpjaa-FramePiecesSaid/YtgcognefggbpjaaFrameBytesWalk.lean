/-
  The walk of FrameBytes: it returns true and changes nothing that was there.
  Conditions: the bytes lie in memory as a list; their number is bounded.
-/
import Derived.Test.YtgcognefggbpjaaFrmW4
import Derived.Deep.RegionHeldLaw
namespace Go.Proofs.Ytgcognefggbpjaa
open Go.RowKit Go.Sort Go.Lib
set_option linter.unusedVariables false
theorem str_len (w : World) (A : Option Addr) (n c : Nat) (l : List UInt8) (hn : l.length = n) (hr : Row w A (bs l)) : (convert 22 9 (.slice A n c)).run Try.prog w = .ok (.string (str l)) w := by
  subst hn; exact run_str w c hr
theorem add_u8 (u : UInt8) : IntKind.u8.wrap ((u.toNat : Int) + 1) = ((u + 1).toNat : Int) := by
  rw [IntKind.wrap_u8, UInt8.toNat_add]
  show _ = (((u.toNat + 1) % 256 : Nat) : Int)
  omega
/-- The bytes handed in, with a mark behind them. -/
theorem in_row {w : World} {g : Nat} {b : List UInt8} (h : Row w (some ⟨g, 0, none⟩) (bs (b ++ [77]))) : Row w (some ⟨g, 0, none⟩) (bs b) ∧ w.cell? ⟨g, b.length, none⟩ = some (.int .u8 77) := by
  refine ⟨?_, ?_⟩
  · have := h.take b.length
    rwa [← bs_length b, bs_append, List.take_left] at this
  · obtain ⟨bq, oq, eq, h77⟩ := h.byte (k := b.length) (by simp)
    cases eq
    rw [List.getElem_append_right (Nat.le_refl _)] at h77
    simpa using h77
set_option maxRecDepth 100000 in
set_option maxHeartbeats 4000000 in
theorem frameBytes_walk (A : Option Addr) (c : Nat) (b : List UInt8) (w : World) (hr : Row w A (bs b)) (hcap : b.length ≤ c) (hmx : c ≤ 140737488351232) :
    Calls Try.prog 11 #[.slice A b.length c] w fun e w' => e = .returned (.bool true) ∧ Below w.heap.size w w' := by
  go_enter Try.func11, Try.ntmps11
  by_cases hbig : 50000 < b.length
  · go_wp2_with fail
    refine (known21_any w).mono ?_
    rintro e w1 ⟨rfl, hb⟩
    go_wp2
    go_ret
    exact ⟨rfl, hb⟩
  · go_wp2_with (at_builtin; refine wpl_app _ rfl (.tmp 12) (.tmp 13) rfl w.heap.size (some ⟨w.heap.size, 0, none⟩) 0 [] rfl (Own.made w #[] 0 (Nat.le_refl _) (by unfold maxLen; omega) rfl) A c b rfl (hr.alloc _) ?_ ?_ ?_)
    · simp; omega
    · simp
    intro A1 c1 w1 h1 hg1 _
    have hb1 : Below w.heap.size w w1 := ((Below.refl w.heap.size w).alloc (Nat.le_refl _) (.cells #[] 5)).grown hg1 (by simp) (by intro k hk; simp [Value.ownBlock] at hk; omega)
    have hs1 := hb1.size
    go_wp2_with (at_builtin; refine wpl_app _ rfl (.tmp 14) (.tmp 15) rfl w.heap.size A1 c1 b rfl (h1.alloc _) (some ⟨w1.heap.size, 0, none⟩) 1 [77] rfl (row_lit w1 [77] _ _ _ rfl) ?_ ?_ ?_)
    · simp; omega
    · simp; omega
    intro A2 c2 w2 h2 hg2 _
    obtain ⟨gi, rfl, hge, hgl⟩ := h2.some_ (by simp)
    have hle := h2.le
    simp only [List.length_append, List.length_cons, List.length_nil] at hle
    have hb2 : Below w.heap.size w w2 := (h1.alloc (.cells #[.int .u8 77] 5)).grown_below rfl hg2 (hb1.alloc hs1 _) (Nat.le_refl _) (by simp; omega)
    have hlen : ((b.length : Nat) : Int) ≤ c2 := by omega
    have RI := Lib.hid h2.row
    have HB2 := Lib.hid hb2
    have HR2 := Lib.hid (hr.below hb2)
    have hri := (in_row h2.row).1
    unfold maxLen at hle
    clear h1 h2 hg1 hg2 hb1 hs1 hr hb2
    by_cases hlong : 20000 < b.length
    · go_wp2_with fail
      refine (framebytes_no (some ⟨gi, 0, none⟩) c2 b w2 hlong (by omega)).mono ?_
      rintro e w3 ⟨rfl, rfl⟩
      have s1 := run_str w2 c HR2.out
      have s2 := run_str w2 c2 hri
      have h77 := (in_row RI.out).2
      clear hri
      go_wp2
      go_loopw [7] (fun i wr => i = .int .i64 0 ∧ w2 = wr) (fun i _ => 0)
      case atStart => exact ⟨rfl, rfl⟩
      case round =>
        obtain ⟨rfl, rfl⟩ := hrel
        go_wp2_with fail
        refine (known21_any w2).mono ?_
        rintro e v ⟨rfl, hv⟩
        go_wp2
        go_ret
        exact ⟨rfl, below_step HB2.out hv (Nat.le_refl _)⟩
    · go_wp2_with fail
      refine (framebytes_ok (some ⟨gi, 0, none⟩) c2 b w2 hri (by omega)).mono ?_
      rintro e w3 ⟨A3, n3, c3, rfl, hn3, o3, hb3⟩
      have hn3' : n3 ≤ 20004 := by have := hn3.out; rw [FrmM.form_length] at this; omega
      have HO := Lib.hid o3
      have HB3 := Lib.hid hb3
      have HK : Hid (∀ w', Below w3.heap.size w3 w' → (convert 22 9 (.slice A3 n3 c3)).run Try.prog w' = .ok (.string (str (FrmM.form b))) w' ∧ Below w3.heap.size w3 w') := Lib.hid (fun w' hb => ⟨str_len w' _ _ _ _ hn3.out (o3.row.below hb), hb⟩)
      have HRB : Hid (Row w3 A (bs b)) := Lib.hid (HR2.out.below hb3)
      have BD : Hid (Below w3.heap.size w3 w3.drew) := Lib.hid ⟨rfl, rfl, rfl, Nat.le_refl _, fun _ _ => rfl⟩
      clear hri o3 hb3
      go_wp2
      go_region_held_law (fun w' => (convert 22 9 (.slice A3 n3 c3)).run Try.prog w' = .ok (.string (str (FrmM.form b))) w' ∧ Below w3.heap.size w3 w')
        (first | exact HK.out _ BD.out | exact HK.out _ BX.out)
        (first
          | (go_at_call 33
             refine (refframe_any A c b _ (HRB.out.below BD.out) (by omega)).mono ?_
             rintro e wx ⟨Ax, nx, cx, rfl, hnx, ox, bx⟩
             have BX := Lib.hid (below_join BD.out bx)
             have sx := str_len wx Ax nx cx _ hnx.out ox.row
             clear ox bx))
      have HO4 := Lib.hid (HO.out.below BX.out)
      have BQ := Lib.hid (below_join HB3.out BX.out)
      obtain ⟨gb, rfl, hgb, _⟩ := HO.out.some_ (by intro q; have := FrmM.form_length b; rw [q] at this; simp at this)
      clear HO HK HRB BX BD HB3 sx
      go_wp2
      go_loopw [7] (fun i wr => ∃ (k : Nat) (Z : List UInt8), i = .int .i64 k ∧ k ≤ n3 ∧ Z.length = n3 ∧ Own wr w2.heap.size (some ⟨gb, 0, none⟩) c3 Z ∧ Below w2.heap.size w2 wr) (fun i _ => n3 - (RowKit.intOf i).toNat)
      case atStart => exact ⟨0, _, rfl, by omega, hn3.out, HO4.out, BQ.out⟩
      case round =>
        obtain ⟨k, Z, rfl, hk, hZ, hO, hbel⟩ := hrel
        by_cases hlt : k < n3
        · obtain ⟨u, hu⟩ : ∃ u, Z[k]? = some u := ⟨_, List.getElem?_eq_getElem (by omega)⟩
          have fx := hO.cell hu
          have fz := hO.frozen k
          have xx := add_u8 u
          obtain ⟨v, hv⟩ : ∃ v, u + 1 = v := ⟨_, rfl⟩
          rw [hv] at xx
          have HZ := Lib.hid hZ
          have HO := Lib.hid hO
          have HQ := Lib.hid hbel
          clear hZ hu hv hO hbel
          go_wp2
          go_roundw
          case rel =>
            have gg := grownBy_setCell wr gb k (.int .u8 (v.toNat : Int))
            exact ⟨k + 1, Z.set k v, by go_num, by omega, by rw [List.length_set]; exact HZ.out, HO.out.set_ k v, HQ.out.grown gg HQ.out.size (fun q hq => by injection hq with hq; omega)⟩
          case measure => simp [RowKit.intOf]; omega
        · obtain rfl : k = n3 := by omega
          have hI := in_row (RI.out.below hbel)
          have s1 := run_str wr c (HR2.out.below hbel)
          have s2 := run_str wr c2 hI.1
          have h77 := hI.2
          have HQ := Lib.hid (below_step HB2.out hbel (Nat.le_refl _))
          clear hI hbel hO
          go_wp2_with fail
          refine (known21_any wr).mono ?_
          rintro e v ⟨rfl, hv⟩
          go_wp2
          go_ret
          exact ⟨rfl, below_step HQ.out hv (Nat.le_refl _)⟩
end Go.Proofs.Ytgcognefggbpjaa
