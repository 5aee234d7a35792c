/-
  The walk of SlotsPlays: it returns true and changes nothing that was there.
  Conditions: the body and the changes lie in memory; their numbers are bounded.
-/
import Derived.Test.YtofbfehpadjbbaaSltP5
import Derived.Test.YtofbfehpadjbbaaReg4
import Derived.Deep.CutRange
namespace Go.Proofs.Ytofbfehpadjbbaa
open Go.RowKit Go.Sort Go.Lib
set_option linter.unusedVariables false
set_option linter.unusedSimpArgs false
def piP (s : Slt) (A : Option Addr) (nF cA : Nat) (D : Option Addr) (nD cD : Nat) (y1 y2 : Sls) (g5 g6 : Nat) : List (Nat × Nat × Value) :=
  [(0, 30, (.agg #[.int .u8 (s.kind : Int), .int .u32 (s.next : Int), .slice A nF cA, .slice D nD cD])), (1, 31, (.agg #[.int .u8 (s.kind : Int), .int .u32 (s.next : Int), .slice y1.A y1.nF y1.cA, .slice y1.D y1.nD y1.cD])), (2, 32, (.agg #[.int .u8 (s.kind : Int), .int .u32 (s.next : Int), .slice A nF cA, .slice D nD cD])), (3, 33, (.agg #[.int .u8 (s.kind : Int), .int .u32 (s.next : Int), .slice y2.A y2.nF y2.cA, .slice y2.D y2.nD y2.cD])), (4, 5, (.pointer (some ⟨g5, 0, none⟩))), (5, 6, (.pointer (some ⟨g6, 0, none⟩)))]
def r15P (og oo on oc k : Nat) (o : Opk) (bA : Option Addr) (cb : Nat) (t : Slt) (x z : Sls) (Rt : Slt) (Ra Re : Int) (y' : Sls) : List (Nat × Nat × Value) :=
  [(0, 73, (.agg #[.int .u8 (t.kind : Int), .int .u32 (t.next : Int), .slice z.A z.nF z.cA, .slice z.D z.nD z.cD])), (1, 74, (.slice (some ⟨og, oo, none⟩) on oc)), (2, 75, (.int .i64 (k : Int))), (3, 76, (.pointer (some ⟨og, oo + k * 3, none⟩))), (4, 77, (.pointer (some ⟨og, oo + k * 3 + 2, none⟩))), (5, 78, (.slice o.A o.b.length o.c)), (6, 79, (.tuple #[.agg #[.int .u8 (Rt.kind : Int), .int .u32 (Rt.next : Int), .slice y'.A y'.nF y'.cA, .slice y'.D y'.nD y'.cD], .int .i64 Ra, .int .i64 Re])), (7, 72, (.tuple #[.agg #[.int .u8 (Rt.kind : Int), .int .u32 (Rt.next : Int), .slice y'.A y'.nF y'.cA, .slice y'.D y'.nD y'.cD], .int .i64 Ra, .int .i64 Re])), (8, 80, (.agg #[.int .u8 (Rt.kind : Int), .int .u32 (Rt.next : Int), .slice y'.A y'.nF y'.cA, .slice y'.D y'.nD y'.cD])), (9, 81, (.int .i64 Ra)), (10, 82, (.int .i64 Re)), (12, 14, (.int .i64 Ra)), (13, 15, (.int .i64 Re))]
def r17P (og oo on oc k : Nat) (o : Opk) (bA : Option Addr) (cb : Nat) (t : Slt) (x z : Sls) (Rt : Slt) (Re : Int) (y' : Sls) : List (Nat × Nat × Value) :=
  [(0, 86, (.agg #[.int .u8 (t.kind : Int), .int .u32 (t.next : Int), .slice x.A x.nF x.cA, .slice x.D x.nD x.cD])), (1, 87, (.slice (some ⟨og, oo, none⟩) on oc)), (2, 88, (.int .i64 (k : Int))), (3, 89, (.pointer (some ⟨og, oo + k * 3, none⟩))), (4, 90, (.pointer (some ⟨og, oo + k * 3 + 1, none⟩))), (5, 91, (.int .i64 o.at_)), (6, 92, (.slice bA o.b.length cb)), (7, 93, (.tuple #[.agg #[.int .u8 (Rt.kind : Int), .int .u32 (Rt.next : Int), .slice y'.A y'.nF y'.cA, .slice y'.D y'.nD y'.cD], .int .i64 Re])), (8, 85, (.tuple #[.agg #[.int .u8 (Rt.kind : Int), .int .u32 (Rt.next : Int), .slice y'.A y'.nF y'.cA, .slice y'.D y'.nD y'.cD], .int .i64 Re])), (9, 94, (.agg #[.int .u8 (Rt.kind : Int), .int .u32 (Rt.next : Int), .slice y'.A y'.nF y'.cA, .slice y'.D y'.nD y'.cD])), (10, 95, (.int .i64 Re)), (12, 12, (.int .i64 Re))]
def r18P (og oo on oc k : Nat) (o : Opk) (bA : Option Addr) (cb : Nat) (t : Slt) (x z : Sls) (Rt : Slt) (Re : Int) (y' : Sls) : List (Nat × Nat × Value) :=
  [(0, 97, (.agg #[.int .u8 (t.kind : Int), .int .u32 (t.next : Int), .slice z.A z.nF z.cA, .slice z.D z.nD z.cD])), (1, 98, (.slice (some ⟨og, oo, none⟩) on oc)), (2, 99, (.int .i64 (k : Int))), (3, 100, (.pointer (some ⟨og, oo + k * 3, none⟩))), (4, 101, (.pointer (some ⟨og, oo + k * 3 + 1, none⟩))), (5, 102, (.int .i64 o.at_)), (6, 103, (.slice (some ⟨og, oo, none⟩) on oc)), (7, 104, (.int .i64 (k : Int))), (8, 105, (.pointer (some ⟨og, oo + k * 3, none⟩))), (9, 106, (.pointer (some ⟨og, oo + k * 3 + 2, none⟩))), (10, 107, (.slice o.A o.b.length o.c)), (11, 108, (.tuple #[.agg #[.int .u8 (Rt.kind : Int), .int .u32 (Rt.next : Int), .slice y'.A y'.nF y'.cA, .slice y'.D y'.nD y'.cD], .int .i64 Re])), (12, 96, (.tuple #[.agg #[.int .u8 (Rt.kind : Int), .int .u32 (Rt.next : Int), .slice y'.A y'.nF y'.cA, .slice y'.D y'.nD y'.cD], .int .i64 Re])), (13, 109, (.agg #[.int .u8 (Rt.kind : Int), .int .u32 (Rt.next : Int), .slice y'.A y'.nF y'.cA, .slice y'.D y'.nD y'.cD])), (14, 110, (.int .i64 Re)), (16, 15, (.int .i64 Re))]
def r20P (og oo on oc k : Nat) (o : Opk) (bA : Option Addr) (cb : Nat) (t : Slt) (x z : Sls) (Rt : Slt) (Re : Int) (y' : Sls) : List (Nat × Nat × Value) :=
  [(0, 114, (.agg #[.int .u8 (t.kind : Int), .int .u32 (t.next : Int), .slice x.A x.nF x.cA, .slice x.D x.nD x.cD])), (1, 115, (.slice (some ⟨og, oo, none⟩) on oc)), (2, 116, (.int .i64 (k : Int))), (3, 117, (.pointer (some ⟨og, oo + k * 3, none⟩))), (4, 118, (.pointer (some ⟨og, oo + k * 3 + 1, none⟩))), (5, 119, (.int .i64 o.at_)), (6, 120, (.tuple #[.agg #[.int .u8 (Rt.kind : Int), .int .u32 (Rt.next : Int), .slice y'.A y'.nF y'.cA, .slice y'.D y'.nD y'.cD], .int .i64 Re])), (7, 113, (.tuple #[.agg #[.int .u8 (Rt.kind : Int), .int .u32 (Rt.next : Int), .slice y'.A y'.nF y'.cA, .slice y'.D y'.nD y'.cD], .int .i64 Re])), (8, 121, (.agg #[.int .u8 (Rt.kind : Int), .int .u32 (Rt.next : Int), .slice y'.A y'.nF y'.cA, .slice y'.D y'.nD y'.cD])), (9, 122, (.int .i64 Re)), (11, 12, (.int .i64 Re))]
def r21P (og oo on oc k : Nat) (o : Opk) (bA : Option Addr) (cb : Nat) (t : Slt) (x z : Sls) (Rt : Slt) (Re : Int) (y' : Sls) : List (Nat × Nat × Value) :=
  [(0, 124, (.agg #[.int .u8 (t.kind : Int), .int .u32 (t.next : Int), .slice z.A z.nF z.cA, .slice z.D z.nD z.cD])), (1, 125, (.slice (some ⟨og, oo, none⟩) on oc)), (2, 126, (.int .i64 (k : Int))), (3, 127, (.pointer (some ⟨og, oo + k * 3, none⟩))), (4, 128, (.pointer (some ⟨og, oo + k * 3 + 1, none⟩))), (5, 129, (.int .i64 o.at_)), (6, 130, (.tuple #[.agg #[.int .u8 (Rt.kind : Int), .int .u32 (Rt.next : Int), .slice y'.A y'.nF y'.cA, .slice y'.D y'.nD y'.cD], .int .i64 Re])), (7, 123, (.tuple #[.agg #[.int .u8 (Rt.kind : Int), .int .u32 (Rt.next : Int), .slice y'.A y'.nF y'.cA, .slice y'.D y'.nD y'.cD], .int .i64 Re])), (8, 131, (.agg #[.int .u8 (Rt.kind : Int), .int .u32 (Rt.next : Int), .slice y'.A y'.nF y'.cA, .slice y'.D y'.nD y'.cD])), (9, 132, (.int .i64 Re)), (11, 15, (.int .i64 Re))]
def r23P (og oo on oc k : Nat) (o : Opk) (bA : Option Addr) (cb : Nat) (t : Slt) (x z : Sls) (Re : Int) (gB : Option Addr) (gn gc : Nat) : List (Nat × Nat × Value) :=
  [(0, 136, (.agg #[.int .u8 (t.kind : Int), .int .u32 (t.next : Int), .slice x.A x.nF x.cA, .slice x.D x.nD x.cD])), (1, 137, (.slice (some ⟨og, oo, none⟩) on oc)), (2, 138, (.int .i64 (k : Int))), (3, 139, (.pointer (some ⟨og, oo + k * 3, none⟩))), (4, 140, (.pointer (some ⟨og, oo + k * 3 + 1, none⟩))), (5, 141, (.int .i64 o.at_)), (6, 142, (.tuple #[.slice gB gn gc, .int .i64 Re])), (7, 135, (.tuple #[.slice gB gn gc, .int .i64 Re])), (8, 143, (.slice gB gn gc)), (9, 144, (.int .i64 Re)), (10, 16, (.slice gB gn gc)), (11, 17, (.int .i64 Re))]
def r24P (og oo on oc k : Nat) (o : Opk) (bA : Option Addr) (cb : Nat) (t : Slt) (x z : Sls) (Re : Int) (gB : Option Addr) (gn gc : Nat) : List (Nat × Nat × Value) :=
  [(0, 146, (.agg #[.int .u8 (t.kind : Int), .int .u32 (t.next : Int), .slice z.A z.nF z.cA, .slice z.D z.nD z.cD])), (1, 147, (.slice (some ⟨og, oo, none⟩) on oc)), (2, 148, (.int .i64 (k : Int))), (3, 149, (.pointer (some ⟨og, oo + k * 3, none⟩))), (4, 150, (.pointer (some ⟨og, oo + k * 3 + 1, none⟩))), (5, 151, (.int .i64 o.at_)), (6, 152, (.tuple #[.slice gB gn gc, .int .i64 Re])), (7, 145, (.tuple #[.slice gB gn gc, .int .i64 Re])), (8, 153, (.slice gB gn gc)), (9, 154, (.int .i64 Re)), (10, 18, (.slice gB gn gc)), (11, 19, (.int .i64 Re))]
def peP (R : Slt) (y z' : Sls) : List (Nat × Nat × Value) :=
  [(0, 211, (.agg #[.int .u8 (R.kind : Int), .int .u32 (R.next : Int), .slice y.A y.nF y.cA, .slice y.D y.nD y.cD])), (1, 212, (.agg #[.int .u8 (R.kind : Int), .int .u32 (R.next : Int), .slice z'.A z'.nF z'.cA, .slice z'.D z'.nD z'.cD]))]
theorem post_upd {L : Nat → Bool} {ps : List Nat} {c : Nat} (h : ∀ j, j ∈ ps → L j = true → L c = true) (i : Nat) (hi : i ∈ ps → L c = true) : ∀ j, j ∈ ps → upd L i j = true → upd L i c = true := by
  intro j hj hL
  by_cases e : c = i
  · rw [e, upd_eq]
  · rw [upd_ne L e]
    by_cases e2 : j = i
    · exact hi (e2 ▸ hj)
    · exact h j hj (by rwa [upd_ne L e2] at hL)
theorem Pq.drew {wI : World} {g5 g6 g8 g10 g13 : Nat} {bA : Option Addr} {nb cb : Nat} {b : List UInt8} {t : Slt} {was : Sls} {ty : Slt} {y : Sls} {tz : Slt} {z : Sls} {w : World} (h : Pq wI g5 g6 g8 g10 g13 bA nb cb b t was ty y tz z w) : Pq wI g5 g6 g8 g10 g13 bA nb cb b t was ty y tz z w.drew := h.call ⟨rfl, rfl, rfl, Nat.le_refl _, fun _ _ => rfl⟩
theorem add_u8 (u : UInt8) : IntKind.u8.wrap ((u.toNat : Int) + 1) = ((u + 1).toNat : Int) := by
  rw [IntKind.wrap_u8, UInt8.toNat_add]
  show _ = (((u.toNat + 1) % 256 : Nat) : Int)
  omega
set_option maxRecDepth 100000 in
set_option maxHeartbeats 16000000 in
theorem slotsPlays_walk (s : Slt) (A : Option Addr) (nF cA : Nat) (D : Option Addr) (nD cD : Nat) (oA : Option Addr) (on oc : Nat) (ops : List Opk) (w : World) (hs : SltAt w A nF cA D nD cD s)
    (hmF : nF ≤ 140737488355328) (hmD : nD ≤ 140737488355328) (hmx : ∀ x ∈ s.data, x.length ≤ 140737488355328) (hor : Row w oA (ops.flatMap Opk.cells)) (hoa : ∀ o ∈ ops, o.At w) (hon : ops.length = on) (hom : on ≤ 9223372036854775807) (hoc : on ≤ oc) :
    Calls Try.prog 5 #[.agg #[.int .u8 (s.kind : Int), .int .u32 (s.next : Int), .slice A nF cA, .slice D nD cD], .slice oA on oc] w fun e w' => e = .returned (.bool true) ∧ Below w.heap.size w w' := by
  go_enter Try.func5, Try.ntmps5
  go_wp2_with fail
  have hx0 := Blk.new w 26 #[.int .u8 (s.kind : Int), .int .u32 (s.next : Int), .slice A nF cA, .slice D nD cD]
  have hB0 : Below w.heap.size w (w.alloc (.cells #[.int .u8 (s.kind : Int), .int .u32 (s.next : Int), .slice A nF cA, .slice D nD cD] 26)) := (Below.refl w.heap.size w).alloc (Nat.le_refl _) _
  generalize w.alloc (.cells #[.int .u8 (s.kind : Int), .int .u32 (s.next : Int), .slice A nF cA, .slice D nD cD] 26) = V at *
  have hsV := hs.below hB0
  refine (large08_any s A nF cA D nD cD V hsV hmF hmD hmx).mono ?_
  rintro e w1 ⟨r, rfl, hr, b1⟩
  have hx1 := hx0.below b1 hx0.lt
  have hs1 := hsV.below b1
  have hB1 := below_step hB0 b1 (Nat.le_refl _)
  clear hx0 hsV hB0 b1 hs hmx
  obtain ⟨d0, d1, d2, d3⟩ := hx1.c4
  cases r with
  | true =>
    go_wp2_with fail
    refine (known08_any w1).mono ?_
    rintro e w2 ⟨rfl, hb⟩
    go_wp2
    go_ret
    exact ⟨rfl, below_step hB1 hb (Nat.le_refl _)⟩
  | false =>
    by_cases hbig : 150 < on
    · go_wp2_with fail
      refine (known08_any w1).mono ?_
      rintro e w2 ⟨rfl, hb⟩
      go_wp2
      go_ret
      exact ⟨rfl, below_step hB1 hb (Nat.le_refl _)⟩
    · have hle := hr.out rfl
      have hbd : SltM.Bnd s := ⟨by rw [hs1.lf]; omega, by rw [hs1.ld]; omega, by omega⟩
      clear hr hmF hmD
      go_upto_region 3 with fail
      clear d0 d1 d2 d3
      refine wp_named fun a0 ha0 => ?_
      have z2 : a0.tmps.getD 2 undef = .pointer (some ⟨w.heap.size, 0, none⟩) := by rw [ha0.out]; rfl
      have hsz0 : a0.tmps.size = 214 := by rw [ha0.out]; rfl
      refine wp_region_inv _ (by kernel_rfl) (fun L a wv => ∃ y1 y2 g5 g6, PIF a0 [5, 6, 30, 31, 32, 33] (piP s A nF cA D nD cD y1 y2 g5 g6) L a ∧ PiW w1 s y1 y2 g5 g6 (L 1) (L 3) (L 4) (L 5) (L 6) (L 7) wv) (by kernel_rfl) ?_ ?_ ?_
      · exact ⟨⟨none, 0, 0, none, 0, 0⟩, ⟨none, 0, 0, none, 0, 0⟩, 0, 0, PIF.start _ _ _, nofun, nofun, ⟨rfl, rfl, rfl, Nat.le_refl _, fun _ _ => rfl⟩, nofun, nofun, nofun, nofun, nofun, nofun, nofun, nofun, nofun⟩
      · rintro L a wv ⟨y1, y2, g5, g6, hp, hw⟩ hL
        have e5 := hp.pu (4, 5, (.pointer (some ⟨g5, 0, none⟩))) (by simp [piP]) (hL 4 (by simp))
        have e6 := hp.pu (5, 6, (.pointer (some ⟨g6, 0, none⟩))) (by simp [piP]) (hL 5 (by simp))
        simp only at e5 e6
        rw [hL 1 (by simp), hL 3 (by simp), hL 4 (by simp), hL 5 (by simp), hL 6 (by simp), hL 7 (by simp)] at hw
        have hP0 : Pst w w.heap.size g5 g6 s y1 y2 wv := hw.pst hB1 hbd
        rw [hp.eq, ha0.out]
        simp only [putAll, e5, e6]
        generalize a.tmps.getD 30 undef = u30
        generalize a.tmps.getD 31 undef = u31
        generalize a.tmps.getD 32 undef = u32
        generalize a.tmps.getD 33 undef = u33
        clear hp e5 e6 hL hw ha0 z2 hsz0
        clear a0 a L
        go_wp2
        go_loopw [7] (fun i wr => ∃ (k : Nat) (t : Slt) (x z : Sls), i = .int .i64 (k : Int) ∧ k ≤ on ∧ Pst w w.heap.size g5 g6 t x z wr) (fun i _ => on - (RowKit.intOf i).toNat)
        case atStart => exact ⟨0, s, y1, y2, rfl, by omega, hP0⟩
        case round =>
          clear hP0
          obtain ⟨k, t, x, z, rfl, hk, hP⟩ := hrel
          obtain ⟨wI, hwI⟩ : ∃ wI, wI = wr := ⟨_, rfl⟩
          subst hwI
          by_cases hlt : k < on
          · obtain ⟨o, ho⟩ : ∃ o, ops[k]? = some o := ⟨_, List.getElem?_eq_getElem (by rw [hon]; exact hlt)⟩
            have hoat := hoa o (List.mem_of_getElem? ho)
            obtain ⟨og, oo, eA, hc0, hc1, hc2⟩ := row_opk (hor.below hP.bel) ho
            subst eA
            by_cases hb1000 : 1000 < o.b.length
            · go_wp2
              go_roundw
              case rel => exact ⟨k + 1, t, x, z, by go_num, by omega, hP⟩
              case measure => simp [RowKit.intOf]; omega
            · obtain ⟨y0, y1', y2', y3⟩ := hP.b5.c4
              go_wp2_with fail
              clear y0 y1' y2' y3
              refine (copyX hP.hx.at_ hP.bd).mono ?_
              rintro e w2 ⟨was, rfl, hwas, b2⟩
              have hB8 := Blk.new w2 26 #[.int .u8 (t.kind : Int), .int .u32 (t.next : Int), .slice was.A was.nF was.cA, .slice was.D was.nD was.cD]
              have hbW : Below wI.heap.size wI (w2.alloc (.cells #[.int .u8 (t.kind : Int), .int .u32 (t.next : Int), .slice was.A was.nF was.cA, .slice was.D was.nD was.cD] 26)) := b2.alloc b2.size _
              have hww := hwas.below ((Below.refl w2.heap.size w2).alloc (Nat.le_refl _) (.cells #[.int .u8 (t.kind : Int), .int .u32 (t.next : Int), .slice was.A was.nF was.cA, .slice was.D was.nD was.cD] 26)) fun _ q => q
              have hWs : (w2.alloc (.cells #[.int .u8 (t.kind : Int), .int .u32 (t.next : Int), .slice was.A was.nF was.cA, .slice was.D was.nD was.cD] 26)).heap.size = w2.heap.size + 1 := by simp
              go_upto_region 9 with fail
              generalize w2.alloc (.cells #[.int .u8 (t.kind : Int), .int .u32 (t.next : Int), .slice was.A was.nF was.cA, .slice was.D was.nD was.cD] 26) = W2 at *
              have hg8 : wI.heap.size ≤ w2.heap.size := b2.size
              generalize w2.heap.size = g8 at *
              clear hwas b2
              have HWs := Lib.hid hWs
              clear hWs
              have hc2' : (W2.alloc (.cells #[] 5)).cell? ⟨og, oo + k * 3 + 2, none⟩ = some (.slice o.A o.b.length o.c) := by rw [(hbW.alloc hbW.size (.cells #[] 5)).cell (World.block_lt_of_cell? wI _ hc2)]; exact hc2
              have hcA := hoat.le
              have hcM := hoat.mx
              have hrow := (hoat.row.below hP.bel).below hbW
              go_wp2_with (at_builtin; refine wpl_app _ rfl (.tmp 49) (.tmp 54) rfl W2.heap.size (some ⟨W2.heap.size, 0, none⟩) 0 [] rfl (Own.made W2 #[] 0 (Nat.le_refl _) (by unfold maxLen; omega) rfl) o.A o.c o.b rfl (hrow.alloc _) ?_ ?_ ?_)
              · simp; omega
              · simp
              intro bA cb W3 h1 hg1 _
              have hb23 : Below W2.heap.size W2 W3 := ((Below.refl W2.heap.size W2).alloc (Nat.le_refl _) (.cells #[] 5)).grown hg1 (by simp) (by intro k hk; simp [Value.ownBlock] at hk; omega)
              have hbW3 : Below wI.heap.size wI W3 := below_step hbW hb23 (Nat.le_refl _)
              have hs3 := hb23.size
              obtain ⟨y0, y1', y2', y3⟩ := (hP.b5.below hbW3 hP.b5.lt).c4
              obtain ⟨q0, q1, q2, q3⟩ := (hP.b6.below (hbW3.alloc hbW3.size (.cells #[.int .u8 (t.kind : Int), .int .u32 (t.next : Int), .slice x.A x.nF x.cA, .slice x.D x.nD x.cD] 26)) hP.b6.lt).c4
              go_upto_region 12 with fail
              clear y0 y1' y2' y3 q0 q1 q2 q3 hc2' hg1
              have hq : Pq wI g5 g6 g8 W3.heap.size (W3.heap.size + 1) bA o.b.length cb o.b t was t x t z ((W3.alloc (.cells #[.int .u8 (t.kind : Int), .int .u32 (t.next : Int), .slice x.A x.nF x.cA, .slice x.D x.nD x.cD] 26)).alloc (.cells #[.int .u8 (t.kind : Int), .int .u32 (t.next : Int), .slice z.A z.nF z.cA, .slice z.D z.nD z.cD] 26)) := by
                have hbl : ∀ a, bA = some a → W2.heap.size ≤ a.block ∧ a.block < W3.heap.size := fun a ha => by subst ha; exact h1.lt a.block rfl
                have h5 := hP.b5.lt
                have h6 := hP.b6.lt
                have hWs := HWs.out
                have hal : Below W3.heap.size W3 ((W3.alloc (.cells #[.int .u8 (t.kind : Int), .int .u32 (t.next : Int), .slice x.A x.nF x.cA, .slice x.D x.nD x.cD] 26)).alloc (.cells #[.int .u8 (t.kind : Int), .int .u32 (t.next : Int), .slice z.A z.nF z.cA, .slice z.D z.nD z.cD] 26)) := ((Below.refl _ _).alloc (Nat.le_refl _) _).alloc (by simp) _
                have hb4 := below_step hbW3 hal (Nat.le_refl _)
                refine ⟨hb4, ⟨h5, h6, hg8, by omega, by omega, by omega, by omega, by omega⟩, ((hB8.below hb23 hB8.lt).alloc _).alloc _, (Blk.new W3 _ _).alloc _, ?_, ?_, fun a ha => by have := hbl a ha; omega, rfl, ?_, ?_, ?_⟩
                · have := Blk.new (W3.alloc (.cells #[.int .u8 (t.kind : Int), .int .u32 (t.next : Int), .slice x.A x.nF x.cA, .slice x.D x.nD x.cD] 26)) 26 #[.int .u8 (t.kind : Int), .int .u32 (t.next : Int), .slice z.A z.nF z.cA, .slice z.D z.nD z.cD]
                  rwa [show (W3.alloc (.cells #[.int .u8 (t.kind : Int), .int .u32 (t.next : Int), .slice x.A x.nF x.cA, .slice x.D x.nD x.cD] 26)).heap.size = W3.heap.size + 1 by simp] at this
                · exact ((h1.base_ (by omega : wI.heap.size ≤ W2.heap.size)).alloc _).alloc _
                · exact (hww.below hb23 fun _ q => q).below hal fun j hj => ⟨by omega, by omega, by omega, by omega, by omega, fun a ha => by have := hbl a ha; omega⟩
                · exact hP.hx.below hb4 fun j hj => ⟨hj.1, hj.2.1, by omega, by omega, by omega, fun a ha => by have := hbl a ha; omega⟩
                · exact hP.hz.below hb4 fun j hj => ⟨hj.1, hj.2.1, by omega, by omega, by omega, fun a ha => by have := hbl a ha; omega⟩
              generalize (W3.alloc (.cells #[.int .u8 (t.kind : Int), .int .u32 (t.next : Int), .slice x.A x.nF x.cA, .slice x.D x.nD x.cD] 26)).alloc (.cells #[.int .u8 (t.kind : Int), .int .u32 (t.next : Int), .slice z.A z.nF z.cA, .slice z.D z.nD z.cD] 26) = W4 at *
              clear hbW3 hb23 h1 hww hB8 hbW hrow hs3
              generalize W3.heap.size = g10 at *
              generalize g10 + 1 = g13 at *
              have hc0' : W4.cell? ⟨og, oo + k * 3, none⟩ = some (.int .i64 o.kind) := by rw [hq.bI.cell (World.block_lt_of_cell? wI _ hc0)]; exact hc0
              go_cut [62] from 34 to 212 (fun v62 wc => v62 = .int .i64 o.kind ∧ wc = W4)
              case first =>
                go_wp2
                go_meet
                case rel => exact ⟨rfl, rfl⟩
              obtain ⟨rfl, rfl⟩ := hcut
              clear hc0'
              go_step
              go_cut [11, 12, 14, 15] from 34 to 212 (fun v11 v12 v14 v15 wc => ∃ (R : Slt) (y z' : Sls) (a1 e1 : Int), v11 = .int .i64 a1 ∧ v14 = .int .i64 a1 ∧ v12 = .int .i64 e1 ∧ v15 = .int .i64 e1 ∧ SltM.Bnd R ∧ Pq wI g5 g6 g8 g10 g13 bA o.b.length cb o.b t was R y R z' wc)
              case first =>
                have hbt := hP.bd
                by_cases h0 : o.kind = 0
                · rw [h0]
                  as_aux_lemma =>
                    obtain ⟨⟨Rt, Ra, Re⟩, hR⟩ : ∃ q, SltM.insR t o.b = q := ⟨_, rfl⟩
                    have hRb : SltM.Bnd Rt := by have := SltM.insR_bnd t o.b; rw [hR] at this; exact this
                    obtain ⟨c0, c1, c2, c3⟩ := (hP.b5.below hq.bI hP.b5.lt).c4
                    go_wp2_with fail
                    clear c0 c1 c2 c3
                    have hc := insX (hP.hx.below hq.bI (Q := fun _ => True) fun _ _ => trivial) hbt bA o.b.length cb o.b (Row.of_own hq.ob) rfl (by omega)
                    rw [hR] at hc
                    refine hc.mono ?_
                    rintro e wA0 ⟨ya, rfl, hy, hb⟩
                    have hq1 := hq.call hb
                    obtain ⟨c0, c1, c2, c3⟩ := hq1.b10.c4
                    have k0 := hq1.b10.frozen 0
                    have k1 := hq1.b10.frozen 1
                    have k2 := hq1.b10.frozen 2
                    have k3 := hq1.b10.frozen 3
                    go_upto_region 15 with fail
                    clear c0 c1 c2 c3 k0 k1 k2 k3
                    have hqV := hq1.setY Rt ya (hy.mono fun k hk => hq.new hk.1)
                    try dsimp only
                    generalize ((((wA0.setCell ⟨g10, 0, none⟩ (.int .u8 (Rt.kind : Int))).setCell ⟨g10, 1, none⟩ (.int .u32 (Rt.next : Int))).setCell ⟨g10, 2, none⟩ (.slice ya.A ya.nF ya.cA)).setCell ⟨g10, 3, none⟩ (.slice ya.D ya.nD ya.cD)) = wA at *
                    clear hq1 hy hb hc
                    refine wp_named fun a0 ha0 => ?_
                    have z1 : a0.tmps.getD 1 undef = .slice (some ⟨og, oo, none⟩) on oc := by rw [ha0.out]; rfl
                    have z6 : a0.tmps.getD 6 undef = .pointer (some ⟨g6, 0, none⟩) := by rw [ha0.out]; rfl
                    have z7 : a0.tmps.getD 7 undef = .int .i64 (k : Int) := by rw [ha0.out]; rfl
                    have z13 : a0.tmps.getD 13 undef = .pointer (some ⟨g13, 0, none⟩) := by rw [ha0.out]; rfl
                    have hsz0 : a0.tmps.size = 214 := by rw [ha0.out]; rfl
                    refine wp_region_invB _ (by kernel_rfl) (fun L a wB => ∃ y', PIF a0 [73, 74, 75, 76, 77, 78, 79, 72, 80, 81, 82, 14, 15] (r15P og oo on oc k o bA cb t x z Rt Ra Re y') L a ∧ PcW wI wA (fun wB => Pq wI g5 g6 g8 g10 g13 bA o.b.length cb o.b t was Rt ya Rt y' wB) y' Rt (L 6) (L 11) wB ∧ (∀ j, j ∈ [7, 8, 9, 10, 12, 13] → L j = true → L 6 = true)) (by kernel_rfl) ?_ ?_ ?_
                    · exact ⟨⟨none, 0, 0, none, 0, 0⟩, PIF.start _ _ _, ⟨nofun, hqV.drew.bI, fun _ => ⟨rfl, rfl, rfl, Nat.le_refl _, fun _ _ => rfl⟩, nofun, nofun⟩, nofun⟩
                    · rintro L a wB ⟨y', hp, hw, hps⟩ hL
                      have e14 := hp.pu (12, 14, (.int .i64 Ra)) (by simp [r15P]) (hL 12 (by simp))
                      simp only at e14
                      have e15 := hp.pu (13, 15, (.int .i64 Re)) (by simp [r15P]) (hL 13 (by simp))
                      simp only at e15
                      have hX := hw.fin (hL 11 (by simp))
                      rw [hp.eq]
                      refine of_assigns (P := Try.prog) _ _ _ _ ?_
                      rw [ha0.out]
                      simp only [asgs, List.map, e14, e15]
                      generalize a.tmps.getD 72 undef = q72
                      generalize a.tmps.getD 73 undef = q73
                      generalize a.tmps.getD 74 undef = q74
                      generalize a.tmps.getD 75 undef = q75
                      generalize a.tmps.getD 76 undef = q76
                      generalize a.tmps.getD 77 undef = q77
                      generalize a.tmps.getD 78 undef = q78
                      generalize a.tmps.getD 79 undef = q79
                      generalize a.tmps.getD 80 undef = q80
                      generalize a.tmps.getD 81 undef = q81
                      generalize a.tmps.getD 82 undef = q82
                      clear hp hw hps hL ha0 hsz0 e14 e15 z1 z6 z7 z13
                      clear a0 a L
                      go_wp2
                      go_meet
                      case rel => exact ⟨Rt, ya, y', Ra, Re, rfl, rfl, rfl, rfl, hRb, hX⟩
                    · as_aux_lemma =>
                        refine ⟨?_, ?_, ?_, ?_, ?_, ?_, ?_, ?_, ?_, ?_, ?_, ?_, ?_, ?_, trivial⟩
                        · intro L a w1 hI hi hd
                          obtain ⟨y', hp, hw, hps⟩ := hI
                          have t6 := hp.at_ 6 _ rfl z6
                          have t6' := t6
                          rw [Array.getD_eq_getD_getElem?] at t6'
                          obtain ⟨x0, x1, x2, x3⟩ := (hP.b6.below hw.bI hP.b6.lt).c4
                          exact rstep_valW (wanted_none rfl _) (.agg #[.int .u8 (t.kind : Int), .int .u32 (t.next : Int), .slice z.A z.nF z.cA, .slice z.D z.nD z.cD]) w1 (by go_simp) ⟨y', (hp.put 0 73 (.agg #[.int .u8 (t.kind : Int), .int .u32 (t.next : Int), .slice z.A z.nF z.cA, .slice z.D z.nD z.cD]) (by simp [r15P]) (by simp [r15P]) rfl (by rw [hsz0]; decide)), hw, post_upd hps 0 (fun h => by first | exact absurd h (by decide) | (simp [hd]; done) | exact hps 0 (by simp) (by simp [hd]))⟩
                        · intro L a w1 hI hi hd
                          obtain ⟨y', hp, hw, hps⟩ := hI
                          have t1 := hp.at_ 1 _ rfl z1
                          have t1' := t1
                          rw [Array.getD_eq_getD_getElem?] at t1'
                          exact rstep_valW (wanted_none rfl _) (.slice (some ⟨og, oo, none⟩) on oc) w1 (by go_simp) ⟨y', (hp.put 1 74 (.slice (some ⟨og, oo, none⟩) on oc) (by simp [r15P]) (by simp [r15P]) rfl (by rw [hsz0]; decide)), hw, post_upd hps 1 (fun h => by first | exact absurd h (by decide) | (simp [hd]; done) | exact hps 0 (by simp) (by simp [hd]))⟩
                        · intro L a w1 hI hi hd
                          obtain ⟨y', hp, hw, hps⟩ := hI
                          have t7 := hp.at_ 7 _ rfl z7
                          have t7' := t7
                          rw [Array.getD_eq_getD_getElem?] at t7'
                          exact rstep_valW (wanted_none rfl _) (.int .i64 (k : Int)) w1 (by go_simp) ⟨y', (hp.put 2 75 (.int .i64 (k : Int)) (by simp [r15P]) (by simp [r15P]) rfl (by rw [hsz0]; decide)), hw, post_upd hps 2 (fun h => by first | exact absurd h (by decide) | (simp [hd]; done) | exact hps 0 (by simp) (by simp [hd]))⟩
                        · intro L a w1 hI hi hd
                          obtain ⟨y', hp, hw, hps⟩ := hI
                          simp [Region.binds] at hd
                          have e1 := hp.pu (1, 74, (.slice (some ⟨og, oo, none⟩) on oc)) (by simp [r15P]) (by simp [hd])
                          simp only at e1
                          have f1 : a.tmps[74]?.getD undef = (.slice (some ⟨og, oo, none⟩) on oc) := by rw [← Array.getD_eq_getD_getElem?]; exact e1
                          have e2 := hp.pu (2, 75, (.int .i64 (k : Int))) (by simp [r15P]) (by simp [hd])
                          simp only at e2
                          have f2 : a.tmps[75]?.getD undef = (.int .i64 (k : Int)) := by rw [← Array.getD_eq_getD_getElem?]; exact e2
                          exact rstep_valW (wanted_none rfl _) (.pointer (some ⟨og, oo + k * 3, none⟩)) w1 (by go_simp) ⟨y', (hp.put 3 76 (.pointer (some ⟨og, oo + k * 3, none⟩)) (by simp [r15P]) (by simp [r15P]) rfl (by rw [hsz0]; decide)), hw, post_upd hps 3 (fun h => by first | exact absurd h (by decide) | (simp [hd]; done) | exact hps 1 (by simp) (by simp [hd]))⟩
                        · intro L a w1 hI hi hd
                          obtain ⟨y', hp, hw, hps⟩ := hI
                          simp [Region.binds] at hd
                          have e3 := hp.pu (3, 76, (.pointer (some ⟨og, oo + k * 3, none⟩))) (by simp [r15P]) (by simp [hd])
                          simp only at e3
                          have f3 : a.tmps[76]?.getD undef = (.pointer (some ⟨og, oo + k * 3, none⟩)) := by rw [← Array.getD_eq_getD_getElem?]; exact e3
                          exact rstep_valW (wanted_none rfl _) (.pointer (some ⟨og, oo + k * 3 + 2, none⟩)) w1 (by go_simp) ⟨y', (hp.put 4 77 (.pointer (some ⟨og, oo + k * 3 + 2, none⟩)) (by simp [r15P]) (by simp [r15P]) rfl (by rw [hsz0]; decide)), hw, post_upd hps 4 (fun h => by first | exact absurd h (by decide) | (simp [hd]; done) | exact hps 3 (by simp) (by simp [hd]))⟩
                        · intro L a w1 hI hi hd
                          obtain ⟨y', hp, hw, hps⟩ := hI
                          simp [Region.binds] at hd
                          have e4 := hp.pu (4, 77, (.pointer (some ⟨og, oo + k * 3 + 2, none⟩))) (by simp [r15P]) (by simp [hd])
                          simp only at e4
                          have f4 : a.tmps[77]?.getD undef = (.pointer (some ⟨og, oo + k * 3 + 2, none⟩)) := by rw [← Array.getD_eq_getD_getElem?]; exact e4
                          have hcl : w1.cell? ⟨og, oo + k * 3 + 2, none⟩ = some (.slice o.A o.b.length o.c) := by rw [hw.bI.cell (World.block_lt_of_cell? wI _ hc2)]; exact hc2
                          exact rstep_valW (wanted_none rfl _) (.slice o.A o.b.length o.c) w1 (by go_simp) ⟨y', (hp.put 5 78 (.slice o.A o.b.length o.c) (by simp [r15P]) (by simp [r15P]) rfl (by rw [hsz0]; decide)), hw, post_upd hps 5 (fun h => by first | exact absurd h (by decide) | (simp [hd]; done) | exact hps 4 (by simp) (by simp [hd]))⟩
                        · intro L a w1 hI hi hd
                          obtain ⟨y', hp, hw, hps⟩ := hI
                          simp [Region.binds] at hd
                          have e0 := hp.pu (0, 73, (.agg #[.int .u8 (t.kind : Int), .int .u32 (t.next : Int), .slice z.A z.nF z.cA, .slice z.D z.nD z.cD])) (by simp [r15P]) (by simp [hd])
                          simp only at e0
                          have f0 : a.tmps[73]?.getD undef = (.agg #[.int .u8 (t.kind : Int), .int .u32 (t.next : Int), .slice z.A z.nF z.cA, .slice z.D z.nD z.cD]) := by rw [← Array.getD_eq_getD_getElem?]; exact e0
                          have e5 := hp.pu (5, 78, (.slice o.A o.b.length o.c)) (by simp [r15P]) (by simp [hd])
                          simp only at e5
                          have f5 : a.tmps[78]?.getD undef = (.slice o.A o.b.length o.c) := by rw [← Array.getD_eq_getD_getElem?]; exact e5
                          have hi : L 6 = false := hi
                          have hno := hw.no hi
                          refine rstep_callW (wanted_none rfl _) 18 #[.agg #[.int .u8 (t.kind : Int), .int .u32 (t.next : Int), .slice z.A z.nF z.cA, .slice z.D z.nD z.cD], .slice o.A o.b.length o.c] (by go_simp) ?_
                          have hc := rinsX (hP.hz.below hw.bI (Q := fun _ => True) fun _ _ => trivial) hbt o.A o.b.length o.c o.b ((hoat.row.below hP.bel).below hw.bI) rfl (by omega)
                          rw [hR] at hc
                          refine hc.mono ?_
                          rintro e w2 ⟨y2, rfl, hy2, hb⟩
                          exact ⟨y2, PIF.put (PIF.swap (p2 := (r15P og oo on oc k o bA cb t x z Rt Ra Re y2)) hp (by intro q hq hL; simp only [r15P, List.mem_cons, List.not_mem_nil, or_false] at hq; rcases hq with rfl | rfl | rfl | rfl | rfl | rfl | rfl | rfl | rfl | rfl | rfl | rfl | rfl <;> first | (simp [r15P]; done) | exact absurd hL (by show ¬ L 6 = true; rw [hi]; simp) | exact absurd (hps _ (by simp) hL) (by rw [hi]; simp))) 6 79 (.tuple #[.agg #[.int .u8 (Rt.kind : Int), .int .u32 (Rt.next : Int), .slice y2.A y2.nF y2.cA, .slice y2.D y2.nD y2.cD], .int .i64 Ra, .int .i64 Re]) (by simp [r15P]) (by simp [r15P]) rfl (by rw [hsz0]; decide), hw.atC hi hqV.bI.size hb hy2, post_upd hps 6 (fun h => by first | exact absurd h (by decide) | (simp [hd]; done) | exact hps 0 (by simp) (by simp [hd]))⟩
                        · intro L a w1 hI hi hd
                          obtain ⟨y', hp, hw, hps⟩ := hI
                          simp [Region.binds] at hd
                          have e6 := hp.pu (6, 79, (.tuple #[.agg #[.int .u8 (Rt.kind : Int), .int .u32 (Rt.next : Int), .slice y'.A y'.nF y'.cA, .slice y'.D y'.nD y'.cD], .int .i64 Ra, .int .i64 Re])) (by simp [r15P]) (by simp [hd])
                          simp only at e6
                          have f6 : a.tmps[79]?.getD undef = (.tuple #[.agg #[.int .u8 (Rt.kind : Int), .int .u32 (Rt.next : Int), .slice y'.A y'.nF y'.cA, .slice y'.D y'.nD y'.cD], .int .i64 Ra, .int .i64 Re]) := by rw [← Array.getD_eq_getD_getElem?]; exact e6
                          exact rstep_valW (wanted_none rfl _) (.tuple #[.agg #[.int .u8 (Rt.kind : Int), .int .u32 (Rt.next : Int), .slice y'.A y'.nF y'.cA, .slice y'.D y'.nD y'.cD], .int .i64 Ra, .int .i64 Re]) w1 (by go_simp) ⟨y', (hp.put 7 72 (.tuple #[.agg #[.int .u8 (Rt.kind : Int), .int .u32 (Rt.next : Int), .slice y'.A y'.nF y'.cA, .slice y'.D y'.nD y'.cD], .int .i64 Ra, .int .i64 Re]) (by simp [r15P]) (by simp [r15P]) rfl (by rw [hsz0]; decide)), hw, post_upd hps 7 (fun h => by first | exact absurd h (by decide) | (simp [hd]; done) | exact hps 6 (by simp) (by simp [hd]))⟩
                        · intro L a w1 hI hi hd
                          obtain ⟨y', hp, hw, hps⟩ := hI
                          simp [Region.binds] at hd
                          have e7 := hp.pu (7, 72, (.tuple #[.agg #[.int .u8 (Rt.kind : Int), .int .u32 (Rt.next : Int), .slice y'.A y'.nF y'.cA, .slice y'.D y'.nD y'.cD], .int .i64 Ra, .int .i64 Re])) (by simp [r15P]) (by simp [hd])
                          simp only at e7
                          have f7 : a.tmps[72]?.getD undef = (.tuple #[.agg #[.int .u8 (Rt.kind : Int), .int .u32 (Rt.next : Int), .slice y'.A y'.nF y'.cA, .slice y'.D y'.nD y'.cD], .int .i64 Ra, .int .i64 Re]) := by rw [← Array.getD_eq_getD_getElem?]; exact e7
                          exact rstep_valW (wanted_none rfl _) (.agg #[.int .u8 (Rt.kind : Int), .int .u32 (Rt.next : Int), .slice y'.A y'.nF y'.cA, .slice y'.D y'.nD y'.cD]) w1 (by go_simp) ⟨y', (hp.put 8 80 (.agg #[.int .u8 (Rt.kind : Int), .int .u32 (Rt.next : Int), .slice y'.A y'.nF y'.cA, .slice y'.D y'.nD y'.cD]) (by simp [r15P]) (by simp [r15P]) rfl (by rw [hsz0]; decide)), hw, post_upd hps 8 (fun h => by first | exact absurd h (by decide) | (simp [hd]; done) | exact hps 7 (by simp) (by simp [hd]))⟩
                        · intro L a w1 hI hi hd
                          obtain ⟨y', hp, hw, hps⟩ := hI
                          simp [Region.binds] at hd
                          have e7 := hp.pu (7, 72, (.tuple #[.agg #[.int .u8 (Rt.kind : Int), .int .u32 (Rt.next : Int), .slice y'.A y'.nF y'.cA, .slice y'.D y'.nD y'.cD], .int .i64 Ra, .int .i64 Re])) (by simp [r15P]) (by simp [hd])
                          simp only at e7
                          have f7 : a.tmps[72]?.getD undef = (.tuple #[.agg #[.int .u8 (Rt.kind : Int), .int .u32 (Rt.next : Int), .slice y'.A y'.nF y'.cA, .slice y'.D y'.nD y'.cD], .int .i64 Ra, .int .i64 Re]) := by rw [← Array.getD_eq_getD_getElem?]; exact e7
                          exact rstep_valW (wanted_none rfl _) (.int .i64 Ra) w1 (by go_simp) ⟨y', (hp.put 9 81 (.int .i64 Ra) (by simp [r15P]) (by simp [r15P]) rfl (by rw [hsz0]; decide)), hw, post_upd hps 9 (fun h => by first | exact absurd h (by decide) | (simp [hd]; done) | exact hps 7 (by simp) (by simp [hd]))⟩
                        · intro L a w1 hI hi hd
                          obtain ⟨y', hp, hw, hps⟩ := hI
                          simp [Region.binds] at hd
                          have e7 := hp.pu (7, 72, (.tuple #[.agg #[.int .u8 (Rt.kind : Int), .int .u32 (Rt.next : Int), .slice y'.A y'.nF y'.cA, .slice y'.D y'.nD y'.cD], .int .i64 Ra, .int .i64 Re])) (by simp [r15P]) (by simp [hd])
                          simp only at e7
                          have f7 : a.tmps[72]?.getD undef = (.tuple #[.agg #[.int .u8 (Rt.kind : Int), .int .u32 (Rt.next : Int), .slice y'.A y'.nF y'.cA, .slice y'.D y'.nD y'.cD], .int .i64 Ra, .int .i64 Re]) := by rw [← Array.getD_eq_getD_getElem?]; exact e7
                          exact rstep_valW (wanted_none rfl _) (.int .i64 Re) w1 (by go_simp) ⟨y', (hp.put 10 82 (.int .i64 Re) (by simp [r15P]) (by simp [r15P]) rfl (by rw [hsz0]; decide)), hw, post_upd hps 10 (fun h => by first | exact absurd h (by decide) | (simp [hd]; done) | exact hps 7 (by simp) (by simp [hd]))⟩
                        · intro L a w1 hI hi hd
                          obtain ⟨y', hp, hw, hps⟩ := hI
                          simp [Region.binds] at hd
                          have e8 := hp.pu (8, 80, (.agg #[.int .u8 (Rt.kind : Int), .int .u32 (Rt.next : Int), .slice y'.A y'.nF y'.cA, .slice y'.D y'.nD y'.cD])) (by simp [r15P]) (by simp [hd])
                          simp only at e8
                          have f8 : a.tmps[80]?.getD undef = (.agg #[.int .u8 (Rt.kind : Int), .int .u32 (Rt.next : Int), .slice y'.A y'.nF y'.cA, .slice y'.D y'.nD y'.cD]) := by rw [← Array.getD_eq_getD_getElem?]; exact e8
                          have t13 := hp.at_ 13 _ rfl z13
                          have t13' := t13
                          rw [Array.getD_eq_getD_getElem?] at t13'
                          have hi : L 11 = false := hi
                          have qc : L 6 = true := by simp [hd]
                          have hqn := hqV.call (hw.b0 hi)
                          have hG := hqn.b13
                          obtain ⟨v0, v1, v2, v3⟩ := hG.c4
                          have k0 := hG.frozen 0
                          have k1 := hG.frozen 1
                          have k2 := hG.frozen 2
                          have k3 := hG.frozen 3
                          have hX := hqn.setZ Rt y' ((hw.y qc hi).mono fun k hk => hqV.new hk.1)
                          exact rstep_skip rfl ((((w1.setCell ⟨g13, 0, none⟩ (.int .u8 (Rt.kind : Int))).setCell ⟨g13, 1, none⟩ (.int .u32 (Rt.next : Int))).setCell ⟨g13, 2, none⟩ (.slice y'.A y'.nF y'.cA)).setCell ⟨g13, 3, none⟩ (.slice y'.D y'.nD y'.cD)) (by go_simp) ⟨y', (hp.skip 11 undef (by simp [r15P])), hw.atS qc hX.bI hX, post_upd hps 11 (fun h => by first | exact absurd h (by decide) | (simp [hd]; done) | exact hps 8 (by simp) (by simp [hd]))⟩
                        · intro L a w1 hI hi hd
                          obtain ⟨y', hp, hw, hps⟩ := hI
                          simp [Region.binds] at hd
                          have e9 := hp.pu (9, 81, (.int .i64 Ra)) (by simp [r15P]) (by simp [hd])
                          simp only at e9
                          have f9 : a.tmps[81]?.getD undef = (.int .i64 Ra) := by rw [← Array.getD_eq_getD_getElem?]; exact e9
                          exact rstep_valW (wanted_none rfl _) (.int .i64 Ra) w1 (by go_simp) ⟨y', (hp.put 12 14 (.int .i64 Ra) (by simp [r15P]) (by simp [r15P]) rfl (by rw [hsz0]; decide)), hw, post_upd hps 12 (fun h => by first | exact absurd h (by decide) | (simp [hd]; done) | exact hps 9 (by simp) (by simp [hd]))⟩
                        · intro L a w1 hI hi hd
                          obtain ⟨y', hp, hw, hps⟩ := hI
                          simp [Region.binds] at hd
                          have e10 := hp.pu (10, 82, (.int .i64 Re)) (by simp [r15P]) (by simp [hd])
                          simp only at e10
                          have f10 : a.tmps[82]?.getD undef = (.int .i64 Re) := by rw [← Array.getD_eq_getD_getElem?]; exact e10
                          exact rstep_valW (wanted_none rfl _) (.int .i64 Re) w1 (by go_simp) ⟨y', (hp.put 13 15 (.int .i64 Re) (by simp [r15P]) (by simp [r15P]) rfl (by rw [hsz0]; decide)), hw, post_upd hps 13 (fun h => by first | exact absurd h (by decide) | (simp [hd]; done) | exact hps 10 (by simp) (by simp [hd]))⟩
                · have n0 : (o.kind == 0) = false := beq_eq_false_iff_ne.2 h0
                  by_cases h1 : o.kind = 1
                  · rw [h1]
                    as_aux_lemma =>
                      obtain ⟨⟨Rt, Re⟩, hR⟩ : ∃ q, SltM.putR t o.at_ o.b = q := ⟨_, rfl⟩
                      have hRb : SltM.Bnd Rt := by have := SltM.putR_bnd t o.at_ o.b; rw [hR] at this; exact this
                      go_upto_region 17 with fail
                      have hqV := hq
                      refine wp_named fun a0 ha0 => ?_
                      have z1 : a0.tmps.getD 1 undef = .slice (some ⟨og, oo, none⟩) on oc := by rw [ha0.out]; rfl
                      have z5 : a0.tmps.getD 5 undef = .pointer (some ⟨g5, 0, none⟩) := by rw [ha0.out]; rfl
                      have z7 : a0.tmps.getD 7 undef = .int .i64 (k : Int) := by rw [ha0.out]; rfl
                      have z9 : a0.tmps.getD 9 undef = .slice bA o.b.length cb := by rw [ha0.out]; rfl
                      have z10 : a0.tmps.getD 10 undef = .pointer (some ⟨g10, 0, none⟩) := by rw [ha0.out]; rfl
                      have hsz0 : a0.tmps.size = 214 := by rw [ha0.out]; rfl
                      refine wp_region_invB _ (by kernel_rfl) (fun L a wA => ∃ ya, PIF a0 [86, 87, 88, 89, 90, 91, 92, 93, 85, 94, 95, 12] (r17P og oo on oc k o bA cb t x z Rt Re ya) L a ∧ PcW wI wc (fun wA => Pq wI g5 g6 g8 g10 g13 bA o.b.length cb o.b t was Rt ya t z wA) ya Rt (L 7) (L 11) wA ∧ (∀ j, j ∈ [8, 9, 10, 12] → L j = true → L 7 = true)) (by kernel_rfl) ?_ ?_ ?_
                      · exact ⟨⟨none, 0, 0, none, 0, 0⟩, PIF.start _ _ _, ⟨nofun, hqV.drew.bI, fun _ => ⟨rfl, rfl, rfl, Nat.le_refl _, fun _ _ => rfl⟩, nofun, nofun⟩, nofun⟩
                      · rintro L a wA ⟨ya, hp, hw, hps⟩ hL
                        have e12 := hp.pu (12, 12, (.int .i64 Re)) (by simp [r17P]) (hL 12 (by simp))
                        simp only at e12
                        have hX := hw.fin (hL 11 (by simp))
                        rw [hp.eq]
                        refine of_assigns (P := Try.prog) _ _ _ _ ?_
                        rw [ha0.out]
                        simp only [asgs, List.map, e12]
                        generalize a.tmps.getD 85 undef = q85
                        generalize a.tmps.getD 86 undef = q86
                        generalize a.tmps.getD 87 undef = q87
                        generalize a.tmps.getD 88 undef = q88
                        generalize a.tmps.getD 89 undef = q89
                        generalize a.tmps.getD 90 undef = q90
                        generalize a.tmps.getD 91 undef = q91
                        generalize a.tmps.getD 92 undef = q92
                        generalize a.tmps.getD 93 undef = q93
                        generalize a.tmps.getD 94 undef = q94
                        generalize a.tmps.getD 95 undef = q95
                        clear hp hw hps hL ha0 hsz0 e12 z1 z5 z7 z9 z10
                        clear a0 a L
                        have hqV := hX
                        clear hX
                        go_upto_region 18 with fail
                        refine wp_named fun a0 ha0 => ?_
                        have z1 : a0.tmps.getD 1 undef = .slice (some ⟨og, oo, none⟩) on oc := by rw [ha0.out]; rfl
                        have z6 : a0.tmps.getD 6 undef = .pointer (some ⟨g6, 0, none⟩) := by rw [ha0.out]; rfl
                        have z7 : a0.tmps.getD 7 undef = .int .i64 (k : Int) := by rw [ha0.out]; rfl
                        have z13 : a0.tmps.getD 13 undef = .pointer (some ⟨g13, 0, none⟩) := by rw [ha0.out]; rfl
                        have hsz0 : a0.tmps.size = 214 := by rw [ha0.out]; rfl
                        refine wp_region_invB _ (by kernel_rfl) (fun L a wB => ∃ y', PIF a0 [97, 98, 99, 100, 101, 102, 103, 104, 105, 106, 107, 108, 96, 109, 110, 15] (r18P og oo on oc k o bA cb t x z Rt Re y') L a ∧ PcW wI wA (fun wB => Pq wI g5 g6 g8 g10 g13 bA o.b.length cb o.b t was Rt ya Rt y' wB) y' Rt (L 11) (L 15) wB ∧ (∀ j, j ∈ [12, 13, 14, 16] → L j = true → L 11 = true)) (by kernel_rfl) ?_ ?_ ?_
                        · exact ⟨⟨none, 0, 0, none, 0, 0⟩, PIF.start _ _ _, ⟨nofun, hqV.drew.bI, fun _ => ⟨rfl, rfl, rfl, Nat.le_refl _, fun _ _ => rfl⟩, nofun, nofun⟩, nofun⟩
                        · rintro L a wB ⟨y', hp, hw, hps⟩ hL
                          have e15 := hp.pu (16, 15, (.int .i64 Re)) (by simp [r18P]) (hL 16 (by simp))
                          simp only at e15
                          have hX := hw.fin (hL 15 (by simp))
                          rw [hp.eq]
                          refine of_assigns (P := Try.prog) _ _ _ _ ?_
                          rw [ha0.out]
                          simp only [asgs, List.map, e15]
                          generalize a.tmps.getD 96 undef = q96
                          generalize a.tmps.getD 97 undef = q97
                          generalize a.tmps.getD 98 undef = q98
                          generalize a.tmps.getD 99 undef = q99
                          generalize a.tmps.getD 100 undef = q100
                          generalize a.tmps.getD 101 undef = q101
                          generalize a.tmps.getD 102 undef = q102
                          generalize a.tmps.getD 103 undef = q103
                          generalize a.tmps.getD 104 undef = q104
                          generalize a.tmps.getD 105 undef = q105
                          generalize a.tmps.getD 106 undef = q106
                          generalize a.tmps.getD 107 undef = q107
                          generalize a.tmps.getD 108 undef = q108
                          generalize a.tmps.getD 109 undef = q109
                          generalize a.tmps.getD 110 undef = q110
                          clear hp hw hps hL ha0 hsz0 e15 z1 z6 z7 z13
                          clear a0 a L
                          go_wp2
                          go_meet
                          case rel => exact ⟨Rt, ya, y', 0, Re, rfl, rfl, rfl, rfl, hRb, hX⟩
                        · as_aux_lemma =>
                            refine ⟨?_, ?_, ?_, ?_, ?_, ?_, ?_, ?_, ?_, ?_, ?_, ?_, ?_, ?_, ?_, ?_, ?_, trivial⟩
                            · intro L a w1 hI hi hd
                              obtain ⟨y', hp, hw, hps⟩ := hI
                              have t6 := hp.at_ 6 _ rfl z6
                              have t6' := t6
                              rw [Array.getD_eq_getD_getElem?] at t6'
                              obtain ⟨x0, x1, x2, x3⟩ := (hP.b6.below hw.bI hP.b6.lt).c4
                              exact rstep_valW (wanted_none rfl _) (.agg #[.int .u8 (t.kind : Int), .int .u32 (t.next : Int), .slice z.A z.nF z.cA, .slice z.D z.nD z.cD]) w1 (by go_simp) ⟨y', (hp.put 0 97 (.agg #[.int .u8 (t.kind : Int), .int .u32 (t.next : Int), .slice z.A z.nF z.cA, .slice z.D z.nD z.cD]) (by simp [r18P]) (by simp [r18P]) rfl (by rw [hsz0]; decide)), hw, post_upd hps 0 (fun h => by first | exact absurd h (by decide) | (simp [hd]; done) | exact hps 0 (by simp) (by simp [hd]))⟩
                            · intro L a w1 hI hi hd
                              obtain ⟨y', hp, hw, hps⟩ := hI
                              have t1 := hp.at_ 1 _ rfl z1
                              have t1' := t1
                              rw [Array.getD_eq_getD_getElem?] at t1'
                              exact rstep_valW (wanted_none rfl _) (.slice (some ⟨og, oo, none⟩) on oc) w1 (by go_simp) ⟨y', (hp.put 1 98 (.slice (some ⟨og, oo, none⟩) on oc) (by simp [r18P]) (by simp [r18P]) rfl (by rw [hsz0]; decide)), hw, post_upd hps 1 (fun h => by first | exact absurd h (by decide) | (simp [hd]; done) | exact hps 0 (by simp) (by simp [hd]))⟩
                            · intro L a w1 hI hi hd
                              obtain ⟨y', hp, hw, hps⟩ := hI
                              have t7 := hp.at_ 7 _ rfl z7
                              have t7' := t7
                              rw [Array.getD_eq_getD_getElem?] at t7'
                              exact rstep_valW (wanted_none rfl _) (.int .i64 (k : Int)) w1 (by go_simp) ⟨y', (hp.put 2 99 (.int .i64 (k : Int)) (by simp [r18P]) (by simp [r18P]) rfl (by rw [hsz0]; decide)), hw, post_upd hps 2 (fun h => by first | exact absurd h (by decide) | (simp [hd]; done) | exact hps 0 (by simp) (by simp [hd]))⟩
                            · intro L a w1 hI hi hd
                              obtain ⟨y', hp, hw, hps⟩ := hI
                              simp [Region.binds] at hd
                              have e1 := hp.pu (1, 98, (.slice (some ⟨og, oo, none⟩) on oc)) (by simp [r18P]) (by simp [hd])
                              simp only at e1
                              have f1 : a.tmps[98]?.getD undef = (.slice (some ⟨og, oo, none⟩) on oc) := by rw [← Array.getD_eq_getD_getElem?]; exact e1
                              have e2 := hp.pu (2, 99, (.int .i64 (k : Int))) (by simp [r18P]) (by simp [hd])
                              simp only at e2
                              have f2 : a.tmps[99]?.getD undef = (.int .i64 (k : Int)) := by rw [← Array.getD_eq_getD_getElem?]; exact e2
                              exact rstep_valW (wanted_none rfl _) (.pointer (some ⟨og, oo + k * 3, none⟩)) w1 (by go_simp) ⟨y', (hp.put 3 100 (.pointer (some ⟨og, oo + k * 3, none⟩)) (by simp [r18P]) (by simp [r18P]) rfl (by rw [hsz0]; decide)), hw, post_upd hps 3 (fun h => by first | exact absurd h (by decide) | (simp [hd]; done) | exact hps 1 (by simp) (by simp [hd]))⟩
                            · intro L a w1 hI hi hd
                              obtain ⟨y', hp, hw, hps⟩ := hI
                              simp [Region.binds] at hd
                              have e3 := hp.pu (3, 100, (.pointer (some ⟨og, oo + k * 3, none⟩))) (by simp [r18P]) (by simp [hd])
                              simp only at e3
                              have f3 : a.tmps[100]?.getD undef = (.pointer (some ⟨og, oo + k * 3, none⟩)) := by rw [← Array.getD_eq_getD_getElem?]; exact e3
                              exact rstep_valW (wanted_none rfl _) (.pointer (some ⟨og, oo + k * 3 + 1, none⟩)) w1 (by go_simp) ⟨y', (hp.put 4 101 (.pointer (some ⟨og, oo + k * 3 + 1, none⟩)) (by simp [r18P]) (by simp [r18P]) rfl (by rw [hsz0]; decide)), hw, post_upd hps 4 (fun h => by first | exact absurd h (by decide) | (simp [hd]; done) | exact hps 3 (by simp) (by simp [hd]))⟩
                            · intro L a w1 hI hi hd
                              obtain ⟨y', hp, hw, hps⟩ := hI
                              simp [Region.binds] at hd
                              have e4 := hp.pu (4, 101, (.pointer (some ⟨og, oo + k * 3 + 1, none⟩))) (by simp [r18P]) (by simp [hd])
                              simp only at e4
                              have f4 : a.tmps[101]?.getD undef = (.pointer (some ⟨og, oo + k * 3 + 1, none⟩)) := by rw [← Array.getD_eq_getD_getElem?]; exact e4
                              have hcl : w1.cell? ⟨og, oo + k * 3 + 1, none⟩ = some (.int .i64 o.at_) := by rw [hw.bI.cell (World.block_lt_of_cell? wI _ hc1)]; exact hc1
                              exact rstep_valW (wanted_none rfl _) (.int .i64 o.at_) w1 (by go_simp) ⟨y', (hp.put 5 102 (.int .i64 o.at_) (by simp [r18P]) (by simp [r18P]) rfl (by rw [hsz0]; decide)), hw, post_upd hps 5 (fun h => by first | exact absurd h (by decide) | (simp [hd]; done) | exact hps 4 (by simp) (by simp [hd]))⟩
                            · intro L a w1 hI hi hd
                              obtain ⟨y', hp, hw, hps⟩ := hI
                              have t1 := hp.at_ 1 _ rfl z1
                              have t1' := t1
                              rw [Array.getD_eq_getD_getElem?] at t1'
                              exact rstep_valW (wanted_none rfl _) (.slice (some ⟨og, oo, none⟩) on oc) w1 (by go_simp) ⟨y', (hp.put 6 103 (.slice (some ⟨og, oo, none⟩) on oc) (by simp [r18P]) (by simp [r18P]) rfl (by rw [hsz0]; decide)), hw, post_upd hps 6 (fun h => by first | exact absurd h (by decide) | (simp [hd]; done) | exact hps 0 (by simp) (by simp [hd]))⟩
                            · intro L a w1 hI hi hd
                              obtain ⟨y', hp, hw, hps⟩ := hI
                              have t7 := hp.at_ 7 _ rfl z7
                              have t7' := t7
                              rw [Array.getD_eq_getD_getElem?] at t7'
                              exact rstep_valW (wanted_none rfl _) (.int .i64 (k : Int)) w1 (by go_simp) ⟨y', (hp.put 7 104 (.int .i64 (k : Int)) (by simp [r18P]) (by simp [r18P]) rfl (by rw [hsz0]; decide)), hw, post_upd hps 7 (fun h => by first | exact absurd h (by decide) | (simp [hd]; done) | exact hps 0 (by simp) (by simp [hd]))⟩
                            · intro L a w1 hI hi hd
                              obtain ⟨y', hp, hw, hps⟩ := hI
                              simp [Region.binds] at hd
                              have e6 := hp.pu (6, 103, (.slice (some ⟨og, oo, none⟩) on oc)) (by simp [r18P]) (by simp [hd])
                              simp only at e6
                              have f6 : a.tmps[103]?.getD undef = (.slice (some ⟨og, oo, none⟩) on oc) := by rw [← Array.getD_eq_getD_getElem?]; exact e6
                              have e7 := hp.pu (7, 104, (.int .i64 (k : Int))) (by simp [r18P]) (by simp [hd])
                              simp only at e7
                              have f7 : a.tmps[104]?.getD undef = (.int .i64 (k : Int)) := by rw [← Array.getD_eq_getD_getElem?]; exact e7
                              exact rstep_valW (wanted_none rfl _) (.pointer (some ⟨og, oo + k * 3, none⟩)) w1 (by go_simp) ⟨y', (hp.put 8 105 (.pointer (some ⟨og, oo + k * 3, none⟩)) (by simp [r18P]) (by simp [r18P]) rfl (by rw [hsz0]; decide)), hw, post_upd hps 8 (fun h => by first | exact absurd h (by decide) | (simp [hd]; done) | exact hps 6 (by simp) (by simp [hd]))⟩
                            · intro L a w1 hI hi hd
                              obtain ⟨y', hp, hw, hps⟩ := hI
                              simp [Region.binds] at hd
                              have e8 := hp.pu (8, 105, (.pointer (some ⟨og, oo + k * 3, none⟩))) (by simp [r18P]) (by simp [hd])
                              simp only at e8
                              have f8 : a.tmps[105]?.getD undef = (.pointer (some ⟨og, oo + k * 3, none⟩)) := by rw [← Array.getD_eq_getD_getElem?]; exact e8
                              exact rstep_valW (wanted_none rfl _) (.pointer (some ⟨og, oo + k * 3 + 2, none⟩)) w1 (by go_simp) ⟨y', (hp.put 9 106 (.pointer (some ⟨og, oo + k * 3 + 2, none⟩)) (by simp [r18P]) (by simp [r18P]) rfl (by rw [hsz0]; decide)), hw, post_upd hps 9 (fun h => by first | exact absurd h (by decide) | (simp [hd]; done) | exact hps 8 (by simp) (by simp [hd]))⟩
                            · intro L a w1 hI hi hd
                              obtain ⟨y', hp, hw, hps⟩ := hI
                              simp [Region.binds] at hd
                              have e9 := hp.pu (9, 106, (.pointer (some ⟨og, oo + k * 3 + 2, none⟩))) (by simp [r18P]) (by simp [hd])
                              simp only at e9
                              have f9 : a.tmps[106]?.getD undef = (.pointer (some ⟨og, oo + k * 3 + 2, none⟩)) := by rw [← Array.getD_eq_getD_getElem?]; exact e9
                              have hcl : w1.cell? ⟨og, oo + k * 3 + 2, none⟩ = some (.slice o.A o.b.length o.c) := by rw [hw.bI.cell (World.block_lt_of_cell? wI _ hc2)]; exact hc2
                              exact rstep_valW (wanted_none rfl _) (.slice o.A o.b.length o.c) w1 (by go_simp) ⟨y', (hp.put 10 107 (.slice o.A o.b.length o.c) (by simp [r18P]) (by simp [r18P]) rfl (by rw [hsz0]; decide)), hw, post_upd hps 10 (fun h => by first | exact absurd h (by decide) | (simp [hd]; done) | exact hps 9 (by simp) (by simp [hd]))⟩
                            · intro L a w1 hI hi hd
                              obtain ⟨y', hp, hw, hps⟩ := hI
                              simp [Region.binds] at hd
                              have e0 := hp.pu (0, 97, (.agg #[.int .u8 (t.kind : Int), .int .u32 (t.next : Int), .slice z.A z.nF z.cA, .slice z.D z.nD z.cD])) (by simp [r18P]) (by simp [hd])
                              simp only at e0
                              have f0 : a.tmps[97]?.getD undef = (.agg #[.int .u8 (t.kind : Int), .int .u32 (t.next : Int), .slice z.A z.nF z.cA, .slice z.D z.nD z.cD]) := by rw [← Array.getD_eq_getD_getElem?]; exact e0
                              have e5 := hp.pu (5, 102, (.int .i64 o.at_)) (by simp [r18P]) (by simp [hd])
                              simp only at e5
                              have f5 : a.tmps[102]?.getD undef = (.int .i64 o.at_) := by rw [← Array.getD_eq_getD_getElem?]; exact e5
                              have e10 := hp.pu (10, 107, (.slice o.A o.b.length o.c)) (by simp [r18P]) (by simp [hd])
                              simp only at e10
                              have f10 : a.tmps[107]?.getD undef = (.slice o.A o.b.length o.c) := by rw [← Array.getD_eq_getD_getElem?]; exact e10
                              have hi : L 11 = false := hi
                              have hno := hw.no hi
                              refine rstep_callW (wanted_none rfl _) 19 #[.agg #[.int .u8 (t.kind : Int), .int .u32 (t.next : Int), .slice z.A z.nF z.cA, .slice z.D z.nD z.cD], .int .i64 o.at_, .slice o.A o.b.length o.c] (by go_simp) ?_
                              have hc := rputX (hP.hz.below hw.bI (Q := fun _ => True) fun _ _ => trivial) hbt o.at_ o.A o.b.length o.c o.b ((hoat.row.below hP.bel).below hw.bI) rfl (by omega)
                              rw [hR] at hc
                              refine hc.mono ?_
                              rintro e w2 ⟨y2, rfl, hy2, hb⟩
                              exact ⟨y2, PIF.put (PIF.swap (p2 := (r18P og oo on oc k o bA cb t x z Rt Re y2)) hp (by intro q hq hL; simp only [r18P, List.mem_cons, List.not_mem_nil, or_false] at hq; rcases hq with rfl | rfl | rfl | rfl | rfl | rfl | rfl | rfl | rfl | rfl | rfl | rfl | rfl | rfl | rfl | rfl <;> first | (simp [r18P]; done) | exact absurd hL (by show ¬ L 11 = true; rw [hi]; simp) | exact absurd (hps _ (by simp) hL) (by rw [hi]; simp))) 11 108 (.tuple #[.agg #[.int .u8 (Rt.kind : Int), .int .u32 (Rt.next : Int), .slice y2.A y2.nF y2.cA, .slice y2.D y2.nD y2.cD], .int .i64 Re]) (by simp [r18P]) (by simp [r18P]) rfl (by rw [hsz0]; decide), hw.atC hi hqV.bI.size hb hy2, post_upd hps 11 (fun h => by first | exact absurd h (by decide) | (simp [hd]; done) | exact hps 0 (by simp) (by simp [hd]))⟩
                            · intro L a w1 hI hi hd
                              obtain ⟨y', hp, hw, hps⟩ := hI
                              simp [Region.binds] at hd
                              have e11 := hp.pu (11, 108, (.tuple #[.agg #[.int .u8 (Rt.kind : Int), .int .u32 (Rt.next : Int), .slice y'.A y'.nF y'.cA, .slice y'.D y'.nD y'.cD], .int .i64 Re])) (by simp [r18P]) (by simp [hd])
                              simp only at e11
                              have f11 : a.tmps[108]?.getD undef = (.tuple #[.agg #[.int .u8 (Rt.kind : Int), .int .u32 (Rt.next : Int), .slice y'.A y'.nF y'.cA, .slice y'.D y'.nD y'.cD], .int .i64 Re]) := by rw [← Array.getD_eq_getD_getElem?]; exact e11
                              exact rstep_valW (wanted_none rfl _) (.tuple #[.agg #[.int .u8 (Rt.kind : Int), .int .u32 (Rt.next : Int), .slice y'.A y'.nF y'.cA, .slice y'.D y'.nD y'.cD], .int .i64 Re]) w1 (by go_simp) ⟨y', (hp.put 12 96 (.tuple #[.agg #[.int .u8 (Rt.kind : Int), .int .u32 (Rt.next : Int), .slice y'.A y'.nF y'.cA, .slice y'.D y'.nD y'.cD], .int .i64 Re]) (by simp [r18P]) (by simp [r18P]) rfl (by rw [hsz0]; decide)), hw, post_upd hps 12 (fun h => by first | exact absurd h (by decide) | (simp [hd]; done) | exact hps 11 (by simp) (by simp [hd]))⟩
                            · intro L a w1 hI hi hd
                              obtain ⟨y', hp, hw, hps⟩ := hI
                              simp [Region.binds] at hd
                              have e12 := hp.pu (12, 96, (.tuple #[.agg #[.int .u8 (Rt.kind : Int), .int .u32 (Rt.next : Int), .slice y'.A y'.nF y'.cA, .slice y'.D y'.nD y'.cD], .int .i64 Re])) (by simp [r18P]) (by simp [hd])
                              simp only at e12
                              have f12 : a.tmps[96]?.getD undef = (.tuple #[.agg #[.int .u8 (Rt.kind : Int), .int .u32 (Rt.next : Int), .slice y'.A y'.nF y'.cA, .slice y'.D y'.nD y'.cD], .int .i64 Re]) := by rw [← Array.getD_eq_getD_getElem?]; exact e12
                              exact rstep_valW (wanted_none rfl _) (.agg #[.int .u8 (Rt.kind : Int), .int .u32 (Rt.next : Int), .slice y'.A y'.nF y'.cA, .slice y'.D y'.nD y'.cD]) w1 (by go_simp) ⟨y', (hp.put 13 109 (.agg #[.int .u8 (Rt.kind : Int), .int .u32 (Rt.next : Int), .slice y'.A y'.nF y'.cA, .slice y'.D y'.nD y'.cD]) (by simp [r18P]) (by simp [r18P]) rfl (by rw [hsz0]; decide)), hw, post_upd hps 13 (fun h => by first | exact absurd h (by decide) | (simp [hd]; done) | exact hps 12 (by simp) (by simp [hd]))⟩
                            · intro L a w1 hI hi hd
                              obtain ⟨y', hp, hw, hps⟩ := hI
                              simp [Region.binds] at hd
                              have e12 := hp.pu (12, 96, (.tuple #[.agg #[.int .u8 (Rt.kind : Int), .int .u32 (Rt.next : Int), .slice y'.A y'.nF y'.cA, .slice y'.D y'.nD y'.cD], .int .i64 Re])) (by simp [r18P]) (by simp [hd])
                              simp only at e12
                              have f12 : a.tmps[96]?.getD undef = (.tuple #[.agg #[.int .u8 (Rt.kind : Int), .int .u32 (Rt.next : Int), .slice y'.A y'.nF y'.cA, .slice y'.D y'.nD y'.cD], .int .i64 Re]) := by rw [← Array.getD_eq_getD_getElem?]; exact e12
                              exact rstep_valW (wanted_none rfl _) (.int .i64 Re) w1 (by go_simp) ⟨y', (hp.put 14 110 (.int .i64 Re) (by simp [r18P]) (by simp [r18P]) rfl (by rw [hsz0]; decide)), hw, post_upd hps 14 (fun h => by first | exact absurd h (by decide) | (simp [hd]; done) | exact hps 12 (by simp) (by simp [hd]))⟩
                            · intro L a w1 hI hi hd
                              obtain ⟨y', hp, hw, hps⟩ := hI
                              simp [Region.binds] at hd
                              have e13 := hp.pu (13, 109, (.agg #[.int .u8 (Rt.kind : Int), .int .u32 (Rt.next : Int), .slice y'.A y'.nF y'.cA, .slice y'.D y'.nD y'.cD])) (by simp [r18P]) (by simp [hd])
                              simp only at e13
                              have f13 : a.tmps[109]?.getD undef = (.agg #[.int .u8 (Rt.kind : Int), .int .u32 (Rt.next : Int), .slice y'.A y'.nF y'.cA, .slice y'.D y'.nD y'.cD]) := by rw [← Array.getD_eq_getD_getElem?]; exact e13
                              have t13 := hp.at_ 13 _ rfl z13
                              have t13' := t13
                              rw [Array.getD_eq_getD_getElem?] at t13'
                              have hi : L 15 = false := hi
                              have qc : L 11 = true := by simp [hd]
                              have hqn := hqV.call (hw.b0 hi)
                              have hG := hqn.b13
                              obtain ⟨v0, v1, v2, v3⟩ := hG.c4
                              have k0 := hG.frozen 0
                              have k1 := hG.frozen 1
                              have k2 := hG.frozen 2
                              have k3 := hG.frozen 3
                              have hX := hqn.setZ Rt y' ((hw.y qc hi).mono fun k hk => hqV.new hk.1)
                              exact rstep_skip rfl ((((w1.setCell ⟨g13, 0, none⟩ (.int .u8 (Rt.kind : Int))).setCell ⟨g13, 1, none⟩ (.int .u32 (Rt.next : Int))).setCell ⟨g13, 2, none⟩ (.slice y'.A y'.nF y'.cA)).setCell ⟨g13, 3, none⟩ (.slice y'.D y'.nD y'.cD)) (by go_simp) ⟨y', (hp.skip 15 undef (by simp [r18P])), hw.atS qc hX.bI hX, post_upd hps 15 (fun h => by first | exact absurd h (by decide) | (simp [hd]; done) | exact hps 13 (by simp) (by simp [hd]))⟩
                            · intro L a w1 hI hi hd
                              obtain ⟨y', hp, hw, hps⟩ := hI
                              simp [Region.binds] at hd
                              have e14 := hp.pu (14, 110, (.int .i64 Re)) (by simp [r18P]) (by simp [hd])
                              simp only at e14
                              have f14 : a.tmps[110]?.getD undef = (.int .i64 Re) := by rw [← Array.getD_eq_getD_getElem?]; exact e14
                              exact rstep_valW (wanted_none rfl _) (.int .i64 Re) w1 (by go_simp) ⟨y', (hp.put 16 15 (.int .i64 Re) (by simp [r18P]) (by simp [r18P]) rfl (by rw [hsz0]; decide)), hw, post_upd hps 16 (fun h => by first | exact absurd h (by decide) | (simp [hd]; done) | exact hps 14 (by simp) (by simp [hd]))⟩
                      · as_aux_lemma =>
                          refine ⟨?_, ?_, ?_, ?_, ?_, ?_, ?_, ?_, ?_, ?_, ?_, ?_, ?_, trivial⟩
                          · intro L a w1 hI hi hd
                            obtain ⟨ya, hp, hw, hps⟩ := hI
                            have t5 := hp.at_ 5 _ rfl z5
                            have t5' := t5
                            rw [Array.getD_eq_getD_getElem?] at t5'
                            obtain ⟨x0, x1, x2, x3⟩ := (hP.b5.below hw.bI hP.b5.lt).c4
                            exact rstep_valW (wanted_none rfl _) (.agg #[.int .u8 (t.kind : Int), .int .u32 (t.next : Int), .slice x.A x.nF x.cA, .slice x.D x.nD x.cD]) w1 (by go_simp) ⟨ya, (hp.put 0 86 (.agg #[.int .u8 (t.kind : Int), .int .u32 (t.next : Int), .slice x.A x.nF x.cA, .slice x.D x.nD x.cD]) (by simp [r17P]) (by simp [r17P]) rfl (by rw [hsz0]; decide)), hw, post_upd hps 0 (fun h => by first | exact absurd h (by decide) | (simp [hd]; done) | exact hps 0 (by simp) (by simp [hd]))⟩
                          · intro L a w1 hI hi hd
                            obtain ⟨ya, hp, hw, hps⟩ := hI
                            have t1 := hp.at_ 1 _ rfl z1
                            have t1' := t1
                            rw [Array.getD_eq_getD_getElem?] at t1'
                            exact rstep_valW (wanted_none rfl _) (.slice (some ⟨og, oo, none⟩) on oc) w1 (by go_simp) ⟨ya, (hp.put 1 87 (.slice (some ⟨og, oo, none⟩) on oc) (by simp [r17P]) (by simp [r17P]) rfl (by rw [hsz0]; decide)), hw, post_upd hps 1 (fun h => by first | exact absurd h (by decide) | (simp [hd]; done) | exact hps 0 (by simp) (by simp [hd]))⟩
                          · intro L a w1 hI hi hd
                            obtain ⟨ya, hp, hw, hps⟩ := hI
                            have t7 := hp.at_ 7 _ rfl z7
                            have t7' := t7
                            rw [Array.getD_eq_getD_getElem?] at t7'
                            exact rstep_valW (wanted_none rfl _) (.int .i64 (k : Int)) w1 (by go_simp) ⟨ya, (hp.put 2 88 (.int .i64 (k : Int)) (by simp [r17P]) (by simp [r17P]) rfl (by rw [hsz0]; decide)), hw, post_upd hps 2 (fun h => by first | exact absurd h (by decide) | (simp [hd]; done) | exact hps 0 (by simp) (by simp [hd]))⟩
                          · intro L a w1 hI hi hd
                            obtain ⟨ya, hp, hw, hps⟩ := hI
                            simp [Region.binds] at hd
                            have e1 := hp.pu (1, 87, (.slice (some ⟨og, oo, none⟩) on oc)) (by simp [r17P]) (by simp [hd])
                            simp only at e1
                            have f1 : a.tmps[87]?.getD undef = (.slice (some ⟨og, oo, none⟩) on oc) := by rw [← Array.getD_eq_getD_getElem?]; exact e1
                            have e2 := hp.pu (2, 88, (.int .i64 (k : Int))) (by simp [r17P]) (by simp [hd])
                            simp only at e2
                            have f2 : a.tmps[88]?.getD undef = (.int .i64 (k : Int)) := by rw [← Array.getD_eq_getD_getElem?]; exact e2
                            exact rstep_valW (wanted_none rfl _) (.pointer (some ⟨og, oo + k * 3, none⟩)) w1 (by go_simp) ⟨ya, (hp.put 3 89 (.pointer (some ⟨og, oo + k * 3, none⟩)) (by simp [r17P]) (by simp [r17P]) rfl (by rw [hsz0]; decide)), hw, post_upd hps 3 (fun h => by first | exact absurd h (by decide) | (simp [hd]; done) | exact hps 1 (by simp) (by simp [hd]))⟩
                          · intro L a w1 hI hi hd
                            obtain ⟨ya, hp, hw, hps⟩ := hI
                            simp [Region.binds] at hd
                            have e3 := hp.pu (3, 89, (.pointer (some ⟨og, oo + k * 3, none⟩))) (by simp [r17P]) (by simp [hd])
                            simp only at e3
                            have f3 : a.tmps[89]?.getD undef = (.pointer (some ⟨og, oo + k * 3, none⟩)) := by rw [← Array.getD_eq_getD_getElem?]; exact e3
                            exact rstep_valW (wanted_none rfl _) (.pointer (some ⟨og, oo + k * 3 + 1, none⟩)) w1 (by go_simp) ⟨ya, (hp.put 4 90 (.pointer (some ⟨og, oo + k * 3 + 1, none⟩)) (by simp [r17P]) (by simp [r17P]) rfl (by rw [hsz0]; decide)), hw, post_upd hps 4 (fun h => by first | exact absurd h (by decide) | (simp [hd]; done) | exact hps 3 (by simp) (by simp [hd]))⟩
                          · intro L a w1 hI hi hd
                            obtain ⟨ya, hp, hw, hps⟩ := hI
                            simp [Region.binds] at hd
                            have e4 := hp.pu (4, 90, (.pointer (some ⟨og, oo + k * 3 + 1, none⟩))) (by simp [r17P]) (by simp [hd])
                            simp only at e4
                            have f4 : a.tmps[90]?.getD undef = (.pointer (some ⟨og, oo + k * 3 + 1, none⟩)) := by rw [← Array.getD_eq_getD_getElem?]; exact e4
                            have hcl : w1.cell? ⟨og, oo + k * 3 + 1, none⟩ = some (.int .i64 o.at_) := by rw [hw.bI.cell (World.block_lt_of_cell? wI _ hc1)]; exact hc1
                            exact rstep_valW (wanted_none rfl _) (.int .i64 o.at_) w1 (by go_simp) ⟨ya, (hp.put 5 91 (.int .i64 o.at_) (by simp [r17P]) (by simp [r17P]) rfl (by rw [hsz0]; decide)), hw, post_upd hps 5 (fun h => by first | exact absurd h (by decide) | (simp [hd]; done) | exact hps 4 (by simp) (by simp [hd]))⟩
                          · intro L a w1 hI hi hd
                            obtain ⟨ya, hp, hw, hps⟩ := hI
                            have t9 := hp.at_ 9 _ rfl z9
                            have t9' := t9
                            rw [Array.getD_eq_getD_getElem?] at t9'
                            exact rstep_valW (wanted_none rfl _) (.slice bA o.b.length cb) w1 (by go_simp) ⟨ya, (hp.put 6 92 (.slice bA o.b.length cb) (by simp [r17P]) (by simp [r17P]) rfl (by rw [hsz0]; decide)), hw, post_upd hps 6 (fun h => by first | exact absurd h (by decide) | (simp [hd]; done) | exact hps 0 (by simp) (by simp [hd]))⟩
                          · intro L a w1 hI hi hd
                            obtain ⟨ya, hp, hw, hps⟩ := hI
                            simp [Region.binds] at hd
                            have e0 := hp.pu (0, 86, (.agg #[.int .u8 (t.kind : Int), .int .u32 (t.next : Int), .slice x.A x.nF x.cA, .slice x.D x.nD x.cD])) (by simp [r17P]) (by simp [hd])
                            simp only at e0
                            have f0 : a.tmps[86]?.getD undef = (.agg #[.int .u8 (t.kind : Int), .int .u32 (t.next : Int), .slice x.A x.nF x.cA, .slice x.D x.nD x.cD]) := by rw [← Array.getD_eq_getD_getElem?]; exact e0
                            have e5 := hp.pu (5, 91, (.int .i64 o.at_)) (by simp [r17P]) (by simp [hd])
                            simp only at e5
                            have f5 : a.tmps[91]?.getD undef = (.int .i64 o.at_) := by rw [← Array.getD_eq_getD_getElem?]; exact e5
                            have e6 := hp.pu (6, 92, (.slice bA o.b.length cb)) (by simp [r17P]) (by simp [hd])
                            simp only at e6
                            have f6 : a.tmps[92]?.getD undef = (.slice bA o.b.length cb) := by rw [← Array.getD_eq_getD_getElem?]; exact e6
                            have hi : L 7 = false := hi
                            have hno := hw.no hi
                            refine rstep_callW (wanted_none rfl _) 12 #[.agg #[.int .u8 (t.kind : Int), .int .u32 (t.next : Int), .slice x.A x.nF x.cA, .slice x.D x.nD x.cD], .int .i64 o.at_, .slice bA o.b.length cb] (by go_simp) ?_
                            have hc := putX (hP.hx.below hw.bI (Q := fun _ => True) fun _ _ => trivial) hbt o.at_ bA o.b.length cb o.b (Row.of_own (hqV.call (hw.b0 hno)).ob) rfl (by omega)
                            rw [hR] at hc
                            refine hc.mono ?_
                            rintro e w2 ⟨y2, rfl, hy2, hb⟩
                            exact ⟨y2, PIF.put (PIF.swap (p2 := (r17P og oo on oc k o bA cb t x z Rt Re y2)) hp (by intro q hq hL; simp only [r17P, List.mem_cons, List.not_mem_nil, or_false] at hq; rcases hq with rfl | rfl | rfl | rfl | rfl | rfl | rfl | rfl | rfl | rfl | rfl | rfl <;> first | (simp [r17P]; done) | exact absurd hL (by show ¬ L 7 = true; rw [hi]; simp) | exact absurd (hps _ (by simp) hL) (by rw [hi]; simp))) 7 93 (.tuple #[.agg #[.int .u8 (Rt.kind : Int), .int .u32 (Rt.next : Int), .slice y2.A y2.nF y2.cA, .slice y2.D y2.nD y2.cD], .int .i64 Re]) (by simp [r17P]) (by simp [r17P]) rfl (by rw [hsz0]; decide), hw.atC hi hqV.bI.size hb hy2, post_upd hps 7 (fun h => by first | exact absurd h (by decide) | (simp [hd]; done) | exact hps 0 (by simp) (by simp [hd]))⟩
                          · intro L a w1 hI hi hd
                            obtain ⟨ya, hp, hw, hps⟩ := hI
                            simp [Region.binds] at hd
                            have e7 := hp.pu (7, 93, (.tuple #[.agg #[.int .u8 (Rt.kind : Int), .int .u32 (Rt.next : Int), .slice ya.A ya.nF ya.cA, .slice ya.D ya.nD ya.cD], .int .i64 Re])) (by simp [r17P]) (by simp [hd])
                            simp only at e7
                            have f7 : a.tmps[93]?.getD undef = (.tuple #[.agg #[.int .u8 (Rt.kind : Int), .int .u32 (Rt.next : Int), .slice ya.A ya.nF ya.cA, .slice ya.D ya.nD ya.cD], .int .i64 Re]) := by rw [← Array.getD_eq_getD_getElem?]; exact e7
                            exact rstep_valW (wanted_none rfl _) (.tuple #[.agg #[.int .u8 (Rt.kind : Int), .int .u32 (Rt.next : Int), .slice ya.A ya.nF ya.cA, .slice ya.D ya.nD ya.cD], .int .i64 Re]) w1 (by go_simp) ⟨ya, (hp.put 8 85 (.tuple #[.agg #[.int .u8 (Rt.kind : Int), .int .u32 (Rt.next : Int), .slice ya.A ya.nF ya.cA, .slice ya.D ya.nD ya.cD], .int .i64 Re]) (by simp [r17P]) (by simp [r17P]) rfl (by rw [hsz0]; decide)), hw, post_upd hps 8 (fun h => by first | exact absurd h (by decide) | (simp [hd]; done) | exact hps 7 (by simp) (by simp [hd]))⟩
                          · intro L a w1 hI hi hd
                            obtain ⟨ya, hp, hw, hps⟩ := hI
                            simp [Region.binds] at hd
                            have e8 := hp.pu (8, 85, (.tuple #[.agg #[.int .u8 (Rt.kind : Int), .int .u32 (Rt.next : Int), .slice ya.A ya.nF ya.cA, .slice ya.D ya.nD ya.cD], .int .i64 Re])) (by simp [r17P]) (by simp [hd])
                            simp only at e8
                            have f8 : a.tmps[85]?.getD undef = (.tuple #[.agg #[.int .u8 (Rt.kind : Int), .int .u32 (Rt.next : Int), .slice ya.A ya.nF ya.cA, .slice ya.D ya.nD ya.cD], .int .i64 Re]) := by rw [← Array.getD_eq_getD_getElem?]; exact e8
                            exact rstep_valW (wanted_none rfl _) (.agg #[.int .u8 (Rt.kind : Int), .int .u32 (Rt.next : Int), .slice ya.A ya.nF ya.cA, .slice ya.D ya.nD ya.cD]) w1 (by go_simp) ⟨ya, (hp.put 9 94 (.agg #[.int .u8 (Rt.kind : Int), .int .u32 (Rt.next : Int), .slice ya.A ya.nF ya.cA, .slice ya.D ya.nD ya.cD]) (by simp [r17P]) (by simp [r17P]) rfl (by rw [hsz0]; decide)), hw, post_upd hps 9 (fun h => by first | exact absurd h (by decide) | (simp [hd]; done) | exact hps 8 (by simp) (by simp [hd]))⟩
                          · intro L a w1 hI hi hd
                            obtain ⟨ya, hp, hw, hps⟩ := hI
                            simp [Region.binds] at hd
                            have e8 := hp.pu (8, 85, (.tuple #[.agg #[.int .u8 (Rt.kind : Int), .int .u32 (Rt.next : Int), .slice ya.A ya.nF ya.cA, .slice ya.D ya.nD ya.cD], .int .i64 Re])) (by simp [r17P]) (by simp [hd])
                            simp only at e8
                            have f8 : a.tmps[85]?.getD undef = (.tuple #[.agg #[.int .u8 (Rt.kind : Int), .int .u32 (Rt.next : Int), .slice ya.A ya.nF ya.cA, .slice ya.D ya.nD ya.cD], .int .i64 Re]) := by rw [← Array.getD_eq_getD_getElem?]; exact e8
                            exact rstep_valW (wanted_none rfl _) (.int .i64 Re) w1 (by go_simp) ⟨ya, (hp.put 10 95 (.int .i64 Re) (by simp [r17P]) (by simp [r17P]) rfl (by rw [hsz0]; decide)), hw, post_upd hps 10 (fun h => by first | exact absurd h (by decide) | (simp [hd]; done) | exact hps 8 (by simp) (by simp [hd]))⟩
                          · intro L a w1 hI hi hd
                            obtain ⟨ya, hp, hw, hps⟩ := hI
                            simp [Region.binds] at hd
                            have e9 := hp.pu (9, 94, (.agg #[.int .u8 (Rt.kind : Int), .int .u32 (Rt.next : Int), .slice ya.A ya.nF ya.cA, .slice ya.D ya.nD ya.cD])) (by simp [r17P]) (by simp [hd])
                            simp only at e9
                            have f9 : a.tmps[94]?.getD undef = (.agg #[.int .u8 (Rt.kind : Int), .int .u32 (Rt.next : Int), .slice ya.A ya.nF ya.cA, .slice ya.D ya.nD ya.cD]) := by rw [← Array.getD_eq_getD_getElem?]; exact e9
                            have t10 := hp.at_ 10 _ rfl z10
                            have t10' := t10
                            rw [Array.getD_eq_getD_getElem?] at t10'
                            have hi : L 11 = false := hi
                            have qc : L 7 = true := by simp [hd]
                            have hqn := hqV.call (hw.b0 hi)
                            have hG := hqn.b10
                            obtain ⟨v0, v1, v2, v3⟩ := hG.c4
                            have k0 := hG.frozen 0
                            have k1 := hG.frozen 1
                            have k2 := hG.frozen 2
                            have k3 := hG.frozen 3
                            have hX := hqn.setY Rt ya ((hw.y qc hi).mono fun k hk => hqV.new hk.1)
                            exact rstep_skip rfl ((((w1.setCell ⟨g10, 0, none⟩ (.int .u8 (Rt.kind : Int))).setCell ⟨g10, 1, none⟩ (.int .u32 (Rt.next : Int))).setCell ⟨g10, 2, none⟩ (.slice ya.A ya.nF ya.cA)).setCell ⟨g10, 3, none⟩ (.slice ya.D ya.nD ya.cD)) (by go_simp) ⟨ya, (hp.skip 11 undef (by simp [r17P])), hw.atS qc hX.bI hX, post_upd hps 11 (fun h => by first | exact absurd h (by decide) | (simp [hd]; done) | exact hps 9 (by simp) (by simp [hd]))⟩
                          · intro L a w1 hI hi hd
                            obtain ⟨ya, hp, hw, hps⟩ := hI
                            simp [Region.binds] at hd
                            have e10 := hp.pu (10, 95, (.int .i64 Re)) (by simp [r17P]) (by simp [hd])
                            simp only at e10
                            have f10 : a.tmps[95]?.getD undef = (.int .i64 Re) := by rw [← Array.getD_eq_getD_getElem?]; exact e10
                            exact rstep_valW (wanted_none rfl _) (.int .i64 Re) w1 (by go_simp) ⟨ya, (hp.put 12 12 (.int .i64 Re) (by simp [r17P]) (by simp [r17P]) rfl (by rw [hsz0]; decide)), hw, post_upd hps 12 (fun h => by first | exact absurd h (by decide) | (simp [hd]; done) | exact hps 10 (by simp) (by simp [hd]))⟩
                  · have n1 : (o.kind == 1) = false := beq_eq_false_iff_ne.2 h1
                    by_cases h2 : o.kind = 2
                    · rw [h2]
                      as_aux_lemma =>
                        obtain ⟨⟨Rt, Re⟩, hR⟩ : ∃ q, SltM.delR t o.at_ = q := ⟨_, rfl⟩
                        have hRb : SltM.Bnd Rt := by have := SltM.delR_bnd t o.at_ hbt; rw [hR] at this; exact this
                        go_upto_region 20 with fail
                        have hqV := hq
                        refine wp_named fun a0 ha0 => ?_
                        have z1 : a0.tmps.getD 1 undef = .slice (some ⟨og, oo, none⟩) on oc := by rw [ha0.out]; rfl
                        have z5 : a0.tmps.getD 5 undef = .pointer (some ⟨g5, 0, none⟩) := by rw [ha0.out]; rfl
                        have z7 : a0.tmps.getD 7 undef = .int .i64 (k : Int) := by rw [ha0.out]; rfl
                        have z10 : a0.tmps.getD 10 undef = .pointer (some ⟨g10, 0, none⟩) := by rw [ha0.out]; rfl
                        have hsz0 : a0.tmps.size = 214 := by rw [ha0.out]; rfl
                        refine wp_region_invB _ (by kernel_rfl) (fun L a wA => ∃ ya, PIF a0 [114, 115, 116, 117, 118, 119, 120, 113, 121, 122, 12] (r20P og oo on oc k o bA cb t x z Rt Re ya) L a ∧ PcW wI wc (fun wA => Pq wI g5 g6 g8 g10 g13 bA o.b.length cb o.b t was Rt ya t z wA) ya Rt (L 6) (L 10) wA ∧ (∀ j, j ∈ [7, 8, 9, 11] → L j = true → L 6 = true)) (by kernel_rfl) ?_ ?_ ?_
                        · exact ⟨⟨none, 0, 0, none, 0, 0⟩, PIF.start _ _ _, ⟨nofun, hqV.drew.bI, fun _ => ⟨rfl, rfl, rfl, Nat.le_refl _, fun _ _ => rfl⟩, nofun, nofun⟩, nofun⟩
                        · rintro L a wA ⟨ya, hp, hw, hps⟩ hL
                          have e12 := hp.pu (11, 12, (.int .i64 Re)) (by simp [r20P]) (hL 11 (by simp))
                          simp only at e12
                          have hX := hw.fin (hL 10 (by simp))
                          rw [hp.eq]
                          refine of_assigns (P := Try.prog) _ _ _ _ ?_
                          rw [ha0.out]
                          simp only [asgs, List.map, e12]
                          generalize a.tmps.getD 113 undef = q113
                          generalize a.tmps.getD 114 undef = q114
                          generalize a.tmps.getD 115 undef = q115
                          generalize a.tmps.getD 116 undef = q116
                          generalize a.tmps.getD 117 undef = q117
                          generalize a.tmps.getD 118 undef = q118
                          generalize a.tmps.getD 119 undef = q119
                          generalize a.tmps.getD 120 undef = q120
                          generalize a.tmps.getD 121 undef = q121
                          generalize a.tmps.getD 122 undef = q122
                          clear hp hw hps hL ha0 hsz0 e12 z1 z5 z7 z10
                          clear a0 a L
                          have hqV := hX
                          clear hX
                          go_upto_region 21 with fail
                          refine wp_named fun a0 ha0 => ?_
                          have z1 : a0.tmps.getD 1 undef = .slice (some ⟨og, oo, none⟩) on oc := by rw [ha0.out]; rfl
                          have z6 : a0.tmps.getD 6 undef = .pointer (some ⟨g6, 0, none⟩) := by rw [ha0.out]; rfl
                          have z7 : a0.tmps.getD 7 undef = .int .i64 (k : Int) := by rw [ha0.out]; rfl
                          have z13 : a0.tmps.getD 13 undef = .pointer (some ⟨g13, 0, none⟩) := by rw [ha0.out]; rfl
                          have hsz0 : a0.tmps.size = 214 := by rw [ha0.out]; rfl
                          refine wp_region_invB _ (by kernel_rfl) (fun L a wB => ∃ y', PIF a0 [124, 125, 126, 127, 128, 129, 130, 123, 131, 132, 15] (r21P og oo on oc k o bA cb t x z Rt Re y') L a ∧ PcW wI wA (fun wB => Pq wI g5 g6 g8 g10 g13 bA o.b.length cb o.b t was Rt ya Rt y' wB) y' Rt (L 6) (L 10) wB ∧ (∀ j, j ∈ [7, 8, 9, 11] → L j = true → L 6 = true)) (by kernel_rfl) ?_ ?_ ?_
                          · exact ⟨⟨none, 0, 0, none, 0, 0⟩, PIF.start _ _ _, ⟨nofun, hqV.drew.bI, fun _ => ⟨rfl, rfl, rfl, Nat.le_refl _, fun _ _ => rfl⟩, nofun, nofun⟩, nofun⟩
                          · rintro L a wB ⟨y', hp, hw, hps⟩ hL
                            have e15 := hp.pu (11, 15, (.int .i64 Re)) (by simp [r21P]) (hL 11 (by simp))
                            simp only at e15
                            have hX := hw.fin (hL 10 (by simp))
                            rw [hp.eq]
                            refine of_assigns (P := Try.prog) _ _ _ _ ?_
                            rw [ha0.out]
                            simp only [asgs, List.map, e15]
                            generalize a.tmps.getD 123 undef = q123
                            generalize a.tmps.getD 124 undef = q124
                            generalize a.tmps.getD 125 undef = q125
                            generalize a.tmps.getD 126 undef = q126
                            generalize a.tmps.getD 127 undef = q127
                            generalize a.tmps.getD 128 undef = q128
                            generalize a.tmps.getD 129 undef = q129
                            generalize a.tmps.getD 130 undef = q130
                            generalize a.tmps.getD 131 undef = q131
                            generalize a.tmps.getD 132 undef = q132
                            clear hp hw hps hL ha0 hsz0 e15 z1 z6 z7 z13
                            clear a0 a L
                            go_wp2
                            go_meet
                            case rel => exact ⟨Rt, ya, y', 0, Re, rfl, rfl, rfl, rfl, hRb, hX⟩
                          · as_aux_lemma =>
                              refine ⟨?_, ?_, ?_, ?_, ?_, ?_, ?_, ?_, ?_, ?_, ?_, ?_, trivial⟩
                              · intro L a w1 hI hi hd
                                obtain ⟨y', hp, hw, hps⟩ := hI
                                have t6 := hp.at_ 6 _ rfl z6
                                have t6' := t6
                                rw [Array.getD_eq_getD_getElem?] at t6'
                                obtain ⟨x0, x1, x2, x3⟩ := (hP.b6.below hw.bI hP.b6.lt).c4
                                exact rstep_valW (wanted_none rfl _) (.agg #[.int .u8 (t.kind : Int), .int .u32 (t.next : Int), .slice z.A z.nF z.cA, .slice z.D z.nD z.cD]) w1 (by go_simp) ⟨y', (hp.put 0 124 (.agg #[.int .u8 (t.kind : Int), .int .u32 (t.next : Int), .slice z.A z.nF z.cA, .slice z.D z.nD z.cD]) (by simp [r21P]) (by simp [r21P]) rfl (by rw [hsz0]; decide)), hw, post_upd hps 0 (fun h => by first | exact absurd h (by decide) | (simp [hd]; done) | exact hps 0 (by simp) (by simp [hd]))⟩
                              · intro L a w1 hI hi hd
                                obtain ⟨y', hp, hw, hps⟩ := hI
                                have t1 := hp.at_ 1 _ rfl z1
                                have t1' := t1
                                rw [Array.getD_eq_getD_getElem?] at t1'
                                exact rstep_valW (wanted_none rfl _) (.slice (some ⟨og, oo, none⟩) on oc) w1 (by go_simp) ⟨y', (hp.put 1 125 (.slice (some ⟨og, oo, none⟩) on oc) (by simp [r21P]) (by simp [r21P]) rfl (by rw [hsz0]; decide)), hw, post_upd hps 1 (fun h => by first | exact absurd h (by decide) | (simp [hd]; done) | exact hps 0 (by simp) (by simp [hd]))⟩
                              · intro L a w1 hI hi hd
                                obtain ⟨y', hp, hw, hps⟩ := hI
                                have t7 := hp.at_ 7 _ rfl z7
                                have t7' := t7
                                rw [Array.getD_eq_getD_getElem?] at t7'
                                exact rstep_valW (wanted_none rfl _) (.int .i64 (k : Int)) w1 (by go_simp) ⟨y', (hp.put 2 126 (.int .i64 (k : Int)) (by simp [r21P]) (by simp [r21P]) rfl (by rw [hsz0]; decide)), hw, post_upd hps 2 (fun h => by first | exact absurd h (by decide) | (simp [hd]; done) | exact hps 0 (by simp) (by simp [hd]))⟩
                              · intro L a w1 hI hi hd
                                obtain ⟨y', hp, hw, hps⟩ := hI
                                simp [Region.binds] at hd
                                have e1 := hp.pu (1, 125, (.slice (some ⟨og, oo, none⟩) on oc)) (by simp [r21P]) (by simp [hd])
                                simp only at e1
                                have f1 : a.tmps[125]?.getD undef = (.slice (some ⟨og, oo, none⟩) on oc) := by rw [← Array.getD_eq_getD_getElem?]; exact e1
                                have e2 := hp.pu (2, 126, (.int .i64 (k : Int))) (by simp [r21P]) (by simp [hd])
                                simp only at e2
                                have f2 : a.tmps[126]?.getD undef = (.int .i64 (k : Int)) := by rw [← Array.getD_eq_getD_getElem?]; exact e2
                                exact rstep_valW (wanted_none rfl _) (.pointer (some ⟨og, oo + k * 3, none⟩)) w1 (by go_simp) ⟨y', (hp.put 3 127 (.pointer (some ⟨og, oo + k * 3, none⟩)) (by simp [r21P]) (by simp [r21P]) rfl (by rw [hsz0]; decide)), hw, post_upd hps 3 (fun h => by first | exact absurd h (by decide) | (simp [hd]; done) | exact hps 1 (by simp) (by simp [hd]))⟩
                              · intro L a w1 hI hi hd
                                obtain ⟨y', hp, hw, hps⟩ := hI
                                simp [Region.binds] at hd
                                have e3 := hp.pu (3, 127, (.pointer (some ⟨og, oo + k * 3, none⟩))) (by simp [r21P]) (by simp [hd])
                                simp only at e3
                                have f3 : a.tmps[127]?.getD undef = (.pointer (some ⟨og, oo + k * 3, none⟩)) := by rw [← Array.getD_eq_getD_getElem?]; exact e3
                                exact rstep_valW (wanted_none rfl _) (.pointer (some ⟨og, oo + k * 3 + 1, none⟩)) w1 (by go_simp) ⟨y', (hp.put 4 128 (.pointer (some ⟨og, oo + k * 3 + 1, none⟩)) (by simp [r21P]) (by simp [r21P]) rfl (by rw [hsz0]; decide)), hw, post_upd hps 4 (fun h => by first | exact absurd h (by decide) | (simp [hd]; done) | exact hps 3 (by simp) (by simp [hd]))⟩
                              · intro L a w1 hI hi hd
                                obtain ⟨y', hp, hw, hps⟩ := hI
                                simp [Region.binds] at hd
                                have e4 := hp.pu (4, 128, (.pointer (some ⟨og, oo + k * 3 + 1, none⟩))) (by simp [r21P]) (by simp [hd])
                                simp only at e4
                                have f4 : a.tmps[128]?.getD undef = (.pointer (some ⟨og, oo + k * 3 + 1, none⟩)) := by rw [← Array.getD_eq_getD_getElem?]; exact e4
                                have hcl : w1.cell? ⟨og, oo + k * 3 + 1, none⟩ = some (.int .i64 o.at_) := by rw [hw.bI.cell (World.block_lt_of_cell? wI _ hc1)]; exact hc1
                                exact rstep_valW (wanted_none rfl _) (.int .i64 o.at_) w1 (by go_simp) ⟨y', (hp.put 5 129 (.int .i64 o.at_) (by simp [r21P]) (by simp [r21P]) rfl (by rw [hsz0]; decide)), hw, post_upd hps 5 (fun h => by first | exact absurd h (by decide) | (simp [hd]; done) | exact hps 4 (by simp) (by simp [hd]))⟩
                              · intro L a w1 hI hi hd
                                obtain ⟨y', hp, hw, hps⟩ := hI
                                simp [Region.binds] at hd
                                have e0 := hp.pu (0, 124, (.agg #[.int .u8 (t.kind : Int), .int .u32 (t.next : Int), .slice z.A z.nF z.cA, .slice z.D z.nD z.cD])) (by simp [r21P]) (by simp [hd])
                                simp only at e0
                                have f0 : a.tmps[124]?.getD undef = (.agg #[.int .u8 (t.kind : Int), .int .u32 (t.next : Int), .slice z.A z.nF z.cA, .slice z.D z.nD z.cD]) := by rw [← Array.getD_eq_getD_getElem?]; exact e0
                                have e5 := hp.pu (5, 129, (.int .i64 o.at_)) (by simp [r21P]) (by simp [hd])
                                simp only at e5
                                have f5 : a.tmps[129]?.getD undef = (.int .i64 o.at_) := by rw [← Array.getD_eq_getD_getElem?]; exact e5
                                have hi : L 6 = false := hi
                                have hno := hw.no hi
                                refine rstep_callW (wanted_none rfl _) 20 #[.agg #[.int .u8 (t.kind : Int), .int .u32 (t.next : Int), .slice z.A z.nF z.cA, .slice z.D z.nD z.cD], .int .i64 o.at_] (by go_simp) ?_
                                have hc := rdelX (hP.hz.below hw.bI (Q := fun _ => True) fun _ _ => trivial) hbt o.at_
                                rw [hR] at hc
                                refine hc.mono ?_
                                rintro e w2 ⟨y2, rfl, hy2, hb⟩
                                exact ⟨y2, PIF.put (PIF.swap (p2 := (r21P og oo on oc k o bA cb t x z Rt Re y2)) hp (by intro q hq hL; simp only [r21P, List.mem_cons, List.not_mem_nil, or_false] at hq; rcases hq with rfl | rfl | rfl | rfl | rfl | rfl | rfl | rfl | rfl | rfl | rfl <;> first | (simp [r21P]; done) | exact absurd hL (by show ¬ L 6 = true; rw [hi]; simp) | exact absurd (hps _ (by simp) hL) (by rw [hi]; simp))) 6 130 (.tuple #[.agg #[.int .u8 (Rt.kind : Int), .int .u32 (Rt.next : Int), .slice y2.A y2.nF y2.cA, .slice y2.D y2.nD y2.cD], .int .i64 Re]) (by simp [r21P]) (by simp [r21P]) rfl (by rw [hsz0]; decide), hw.atC hi hqV.bI.size hb hy2, post_upd hps 6 (fun h => by first | exact absurd h (by decide) | (simp [hd]; done) | exact hps 0 (by simp) (by simp [hd]))⟩
                              · intro L a w1 hI hi hd
                                obtain ⟨y', hp, hw, hps⟩ := hI
                                simp [Region.binds] at hd
                                have e6 := hp.pu (6, 130, (.tuple #[.agg #[.int .u8 (Rt.kind : Int), .int .u32 (Rt.next : Int), .slice y'.A y'.nF y'.cA, .slice y'.D y'.nD y'.cD], .int .i64 Re])) (by simp [r21P]) (by simp [hd])
                                simp only at e6
                                have f6 : a.tmps[130]?.getD undef = (.tuple #[.agg #[.int .u8 (Rt.kind : Int), .int .u32 (Rt.next : Int), .slice y'.A y'.nF y'.cA, .slice y'.D y'.nD y'.cD], .int .i64 Re]) := by rw [← Array.getD_eq_getD_getElem?]; exact e6
                                exact rstep_valW (wanted_none rfl _) (.tuple #[.agg #[.int .u8 (Rt.kind : Int), .int .u32 (Rt.next : Int), .slice y'.A y'.nF y'.cA, .slice y'.D y'.nD y'.cD], .int .i64 Re]) w1 (by go_simp) ⟨y', (hp.put 7 123 (.tuple #[.agg #[.int .u8 (Rt.kind : Int), .int .u32 (Rt.next : Int), .slice y'.A y'.nF y'.cA, .slice y'.D y'.nD y'.cD], .int .i64 Re]) (by simp [r21P]) (by simp [r21P]) rfl (by rw [hsz0]; decide)), hw, post_upd hps 7 (fun h => by first | exact absurd h (by decide) | (simp [hd]; done) | exact hps 6 (by simp) (by simp [hd]))⟩
                              · intro L a w1 hI hi hd
                                obtain ⟨y', hp, hw, hps⟩ := hI
                                simp [Region.binds] at hd
                                have e7 := hp.pu (7, 123, (.tuple #[.agg #[.int .u8 (Rt.kind : Int), .int .u32 (Rt.next : Int), .slice y'.A y'.nF y'.cA, .slice y'.D y'.nD y'.cD], .int .i64 Re])) (by simp [r21P]) (by simp [hd])
                                simp only at e7
                                have f7 : a.tmps[123]?.getD undef = (.tuple #[.agg #[.int .u8 (Rt.kind : Int), .int .u32 (Rt.next : Int), .slice y'.A y'.nF y'.cA, .slice y'.D y'.nD y'.cD], .int .i64 Re]) := by rw [← Array.getD_eq_getD_getElem?]; exact e7
                                exact rstep_valW (wanted_none rfl _) (.agg #[.int .u8 (Rt.kind : Int), .int .u32 (Rt.next : Int), .slice y'.A y'.nF y'.cA, .slice y'.D y'.nD y'.cD]) w1 (by go_simp) ⟨y', (hp.put 8 131 (.agg #[.int .u8 (Rt.kind : Int), .int .u32 (Rt.next : Int), .slice y'.A y'.nF y'.cA, .slice y'.D y'.nD y'.cD]) (by simp [r21P]) (by simp [r21P]) rfl (by rw [hsz0]; decide)), hw, post_upd hps 8 (fun h => by first | exact absurd h (by decide) | (simp [hd]; done) | exact hps 7 (by simp) (by simp [hd]))⟩
                              · intro L a w1 hI hi hd
                                obtain ⟨y', hp, hw, hps⟩ := hI
                                simp [Region.binds] at hd
                                have e7 := hp.pu (7, 123, (.tuple #[.agg #[.int .u8 (Rt.kind : Int), .int .u32 (Rt.next : Int), .slice y'.A y'.nF y'.cA, .slice y'.D y'.nD y'.cD], .int .i64 Re])) (by simp [r21P]) (by simp [hd])
                                simp only at e7
                                have f7 : a.tmps[123]?.getD undef = (.tuple #[.agg #[.int .u8 (Rt.kind : Int), .int .u32 (Rt.next : Int), .slice y'.A y'.nF y'.cA, .slice y'.D y'.nD y'.cD], .int .i64 Re]) := by rw [← Array.getD_eq_getD_getElem?]; exact e7
                                exact rstep_valW (wanted_none rfl _) (.int .i64 Re) w1 (by go_simp) ⟨y', (hp.put 9 132 (.int .i64 Re) (by simp [r21P]) (by simp [r21P]) rfl (by rw [hsz0]; decide)), hw, post_upd hps 9 (fun h => by first | exact absurd h (by decide) | (simp [hd]; done) | exact hps 7 (by simp) (by simp [hd]))⟩
                              · intro L a w1 hI hi hd
                                obtain ⟨y', hp, hw, hps⟩ := hI
                                simp [Region.binds] at hd
                                have e8 := hp.pu (8, 131, (.agg #[.int .u8 (Rt.kind : Int), .int .u32 (Rt.next : Int), .slice y'.A y'.nF y'.cA, .slice y'.D y'.nD y'.cD])) (by simp [r21P]) (by simp [hd])
                                simp only at e8
                                have f8 : a.tmps[131]?.getD undef = (.agg #[.int .u8 (Rt.kind : Int), .int .u32 (Rt.next : Int), .slice y'.A y'.nF y'.cA, .slice y'.D y'.nD y'.cD]) := by rw [← Array.getD_eq_getD_getElem?]; exact e8
                                have t13 := hp.at_ 13 _ rfl z13
                                have t13' := t13
                                rw [Array.getD_eq_getD_getElem?] at t13'
                                have hi : L 10 = false := hi
                                have qc : L 6 = true := by simp [hd]
                                have hqn := hqV.call (hw.b0 hi)
                                have hG := hqn.b13
                                obtain ⟨v0, v1, v2, v3⟩ := hG.c4
                                have k0 := hG.frozen 0
                                have k1 := hG.frozen 1
                                have k2 := hG.frozen 2
                                have k3 := hG.frozen 3
                                have hX := hqn.setZ Rt y' ((hw.y qc hi).mono fun k hk => hqV.new hk.1)
                                exact rstep_skip rfl ((((w1.setCell ⟨g13, 0, none⟩ (.int .u8 (Rt.kind : Int))).setCell ⟨g13, 1, none⟩ (.int .u32 (Rt.next : Int))).setCell ⟨g13, 2, none⟩ (.slice y'.A y'.nF y'.cA)).setCell ⟨g13, 3, none⟩ (.slice y'.D y'.nD y'.cD)) (by go_simp) ⟨y', (hp.skip 10 undef (by simp [r21P])), hw.atS qc hX.bI hX, post_upd hps 10 (fun h => by first | exact absurd h (by decide) | (simp [hd]; done) | exact hps 8 (by simp) (by simp [hd]))⟩
                              · intro L a w1 hI hi hd
                                obtain ⟨y', hp, hw, hps⟩ := hI
                                simp [Region.binds] at hd
                                have e9 := hp.pu (9, 132, (.int .i64 Re)) (by simp [r21P]) (by simp [hd])
                                simp only at e9
                                have f9 : a.tmps[132]?.getD undef = (.int .i64 Re) := by rw [← Array.getD_eq_getD_getElem?]; exact e9
                                exact rstep_valW (wanted_none rfl _) (.int .i64 Re) w1 (by go_simp) ⟨y', (hp.put 11 15 (.int .i64 Re) (by simp [r21P]) (by simp [r21P]) rfl (by rw [hsz0]; decide)), hw, post_upd hps 11 (fun h => by first | exact absurd h (by decide) | (simp [hd]; done) | exact hps 9 (by simp) (by simp [hd]))⟩
                        · as_aux_lemma =>
                            refine ⟨?_, ?_, ?_, ?_, ?_, ?_, ?_, ?_, ?_, ?_, ?_, ?_, trivial⟩
                            · intro L a w1 hI hi hd
                              obtain ⟨ya, hp, hw, hps⟩ := hI
                              have t5 := hp.at_ 5 _ rfl z5
                              have t5' := t5
                              rw [Array.getD_eq_getD_getElem?] at t5'
                              obtain ⟨x0, x1, x2, x3⟩ := (hP.b5.below hw.bI hP.b5.lt).c4
                              exact rstep_valW (wanted_none rfl _) (.agg #[.int .u8 (t.kind : Int), .int .u32 (t.next : Int), .slice x.A x.nF x.cA, .slice x.D x.nD x.cD]) w1 (by go_simp) ⟨ya, (hp.put 0 114 (.agg #[.int .u8 (t.kind : Int), .int .u32 (t.next : Int), .slice x.A x.nF x.cA, .slice x.D x.nD x.cD]) (by simp [r20P]) (by simp [r20P]) rfl (by rw [hsz0]; decide)), hw, post_upd hps 0 (fun h => by first | exact absurd h (by decide) | (simp [hd]; done) | exact hps 0 (by simp) (by simp [hd]))⟩
                            · intro L a w1 hI hi hd
                              obtain ⟨ya, hp, hw, hps⟩ := hI
                              have t1 := hp.at_ 1 _ rfl z1
                              have t1' := t1
                              rw [Array.getD_eq_getD_getElem?] at t1'
                              exact rstep_valW (wanted_none rfl _) (.slice (some ⟨og, oo, none⟩) on oc) w1 (by go_simp) ⟨ya, (hp.put 1 115 (.slice (some ⟨og, oo, none⟩) on oc) (by simp [r20P]) (by simp [r20P]) rfl (by rw [hsz0]; decide)), hw, post_upd hps 1 (fun h => by first | exact absurd h (by decide) | (simp [hd]; done) | exact hps 0 (by simp) (by simp [hd]))⟩
                            · intro L a w1 hI hi hd
                              obtain ⟨ya, hp, hw, hps⟩ := hI
                              have t7 := hp.at_ 7 _ rfl z7
                              have t7' := t7
                              rw [Array.getD_eq_getD_getElem?] at t7'
                              exact rstep_valW (wanted_none rfl _) (.int .i64 (k : Int)) w1 (by go_simp) ⟨ya, (hp.put 2 116 (.int .i64 (k : Int)) (by simp [r20P]) (by simp [r20P]) rfl (by rw [hsz0]; decide)), hw, post_upd hps 2 (fun h => by first | exact absurd h (by decide) | (simp [hd]; done) | exact hps 0 (by simp) (by simp [hd]))⟩
                            · intro L a w1 hI hi hd
                              obtain ⟨ya, hp, hw, hps⟩ := hI
                              simp [Region.binds] at hd
                              have e1 := hp.pu (1, 115, (.slice (some ⟨og, oo, none⟩) on oc)) (by simp [r20P]) (by simp [hd])
                              simp only at e1
                              have f1 : a.tmps[115]?.getD undef = (.slice (some ⟨og, oo, none⟩) on oc) := by rw [← Array.getD_eq_getD_getElem?]; exact e1
                              have e2 := hp.pu (2, 116, (.int .i64 (k : Int))) (by simp [r20P]) (by simp [hd])
                              simp only at e2
                              have f2 : a.tmps[116]?.getD undef = (.int .i64 (k : Int)) := by rw [← Array.getD_eq_getD_getElem?]; exact e2
                              exact rstep_valW (wanted_none rfl _) (.pointer (some ⟨og, oo + k * 3, none⟩)) w1 (by go_simp) ⟨ya, (hp.put 3 117 (.pointer (some ⟨og, oo + k * 3, none⟩)) (by simp [r20P]) (by simp [r20P]) rfl (by rw [hsz0]; decide)), hw, post_upd hps 3 (fun h => by first | exact absurd h (by decide) | (simp [hd]; done) | exact hps 1 (by simp) (by simp [hd]))⟩
                            · intro L a w1 hI hi hd
                              obtain ⟨ya, hp, hw, hps⟩ := hI
                              simp [Region.binds] at hd
                              have e3 := hp.pu (3, 117, (.pointer (some ⟨og, oo + k * 3, none⟩))) (by simp [r20P]) (by simp [hd])
                              simp only at e3
                              have f3 : a.tmps[117]?.getD undef = (.pointer (some ⟨og, oo + k * 3, none⟩)) := by rw [← Array.getD_eq_getD_getElem?]; exact e3
                              exact rstep_valW (wanted_none rfl _) (.pointer (some ⟨og, oo + k * 3 + 1, none⟩)) w1 (by go_simp) ⟨ya, (hp.put 4 118 (.pointer (some ⟨og, oo + k * 3 + 1, none⟩)) (by simp [r20P]) (by simp [r20P]) rfl (by rw [hsz0]; decide)), hw, post_upd hps 4 (fun h => by first | exact absurd h (by decide) | (simp [hd]; done) | exact hps 3 (by simp) (by simp [hd]))⟩
                            · intro L a w1 hI hi hd
                              obtain ⟨ya, hp, hw, hps⟩ := hI
                              simp [Region.binds] at hd
                              have e4 := hp.pu (4, 118, (.pointer (some ⟨og, oo + k * 3 + 1, none⟩))) (by simp [r20P]) (by simp [hd])
                              simp only at e4
                              have f4 : a.tmps[118]?.getD undef = (.pointer (some ⟨og, oo + k * 3 + 1, none⟩)) := by rw [← Array.getD_eq_getD_getElem?]; exact e4
                              have hcl : w1.cell? ⟨og, oo + k * 3 + 1, none⟩ = some (.int .i64 o.at_) := by rw [hw.bI.cell (World.block_lt_of_cell? wI _ hc1)]; exact hc1
                              exact rstep_valW (wanted_none rfl _) (.int .i64 o.at_) w1 (by go_simp) ⟨ya, (hp.put 5 119 (.int .i64 o.at_) (by simp [r20P]) (by simp [r20P]) rfl (by rw [hsz0]; decide)), hw, post_upd hps 5 (fun h => by first | exact absurd h (by decide) | (simp [hd]; done) | exact hps 4 (by simp) (by simp [hd]))⟩
                            · intro L a w1 hI hi hd
                              obtain ⟨ya, hp, hw, hps⟩ := hI
                              simp [Region.binds] at hd
                              have e0 := hp.pu (0, 114, (.agg #[.int .u8 (t.kind : Int), .int .u32 (t.next : Int), .slice x.A x.nF x.cA, .slice x.D x.nD x.cD])) (by simp [r20P]) (by simp [hd])
                              simp only at e0
                              have f0 : a.tmps[114]?.getD undef = (.agg #[.int .u8 (t.kind : Int), .int .u32 (t.next : Int), .slice x.A x.nF x.cA, .slice x.D x.nD x.cD]) := by rw [← Array.getD_eq_getD_getElem?]; exact e0
                              have e5 := hp.pu (5, 119, (.int .i64 o.at_)) (by simp [r20P]) (by simp [hd])
                              simp only at e5
                              have f5 : a.tmps[119]?.getD undef = (.int .i64 o.at_) := by rw [← Array.getD_eq_getD_getElem?]; exact e5
                              have hi : L 6 = false := hi
                              have hno := hw.no hi
                              refine rstep_callW (wanted_none rfl _) 16 #[.agg #[.int .u8 (t.kind : Int), .int .u32 (t.next : Int), .slice x.A x.nF x.cA, .slice x.D x.nD x.cD], .int .i64 o.at_] (by go_simp) ?_
                              have hc := delX (hP.hx.below hw.bI (Q := fun _ => True) fun _ _ => trivial) hbt o.at_
                              rw [hR] at hc
                              refine hc.mono ?_
                              rintro e w2 ⟨y2, rfl, hy2, hb⟩
                              exact ⟨y2, PIF.put (PIF.swap (p2 := (r20P og oo on oc k o bA cb t x z Rt Re y2)) hp (by intro q hq hL; simp only [r20P, List.mem_cons, List.not_mem_nil, or_false] at hq; rcases hq with rfl | rfl | rfl | rfl | rfl | rfl | rfl | rfl | rfl | rfl | rfl <;> first | (simp [r20P]; done) | exact absurd hL (by show ¬ L 6 = true; rw [hi]; simp) | exact absurd (hps _ (by simp) hL) (by rw [hi]; simp))) 6 120 (.tuple #[.agg #[.int .u8 (Rt.kind : Int), .int .u32 (Rt.next : Int), .slice y2.A y2.nF y2.cA, .slice y2.D y2.nD y2.cD], .int .i64 Re]) (by simp [r20P]) (by simp [r20P]) rfl (by rw [hsz0]; decide), hw.atC hi hqV.bI.size hb hy2, post_upd hps 6 (fun h => by first | exact absurd h (by decide) | (simp [hd]; done) | exact hps 0 (by simp) (by simp [hd]))⟩
                            · intro L a w1 hI hi hd
                              obtain ⟨ya, hp, hw, hps⟩ := hI
                              simp [Region.binds] at hd
                              have e6 := hp.pu (6, 120, (.tuple #[.agg #[.int .u8 (Rt.kind : Int), .int .u32 (Rt.next : Int), .slice ya.A ya.nF ya.cA, .slice ya.D ya.nD ya.cD], .int .i64 Re])) (by simp [r20P]) (by simp [hd])
                              simp only at e6
                              have f6 : a.tmps[120]?.getD undef = (.tuple #[.agg #[.int .u8 (Rt.kind : Int), .int .u32 (Rt.next : Int), .slice ya.A ya.nF ya.cA, .slice ya.D ya.nD ya.cD], .int .i64 Re]) := by rw [← Array.getD_eq_getD_getElem?]; exact e6
                              exact rstep_valW (wanted_none rfl _) (.tuple #[.agg #[.int .u8 (Rt.kind : Int), .int .u32 (Rt.next : Int), .slice ya.A ya.nF ya.cA, .slice ya.D ya.nD ya.cD], .int .i64 Re]) w1 (by go_simp) ⟨ya, (hp.put 7 113 (.tuple #[.agg #[.int .u8 (Rt.kind : Int), .int .u32 (Rt.next : Int), .slice ya.A ya.nF ya.cA, .slice ya.D ya.nD ya.cD], .int .i64 Re]) (by simp [r20P]) (by simp [r20P]) rfl (by rw [hsz0]; decide)), hw, post_upd hps 7 (fun h => by first | exact absurd h (by decide) | (simp [hd]; done) | exact hps 6 (by simp) (by simp [hd]))⟩
                            · intro L a w1 hI hi hd
                              obtain ⟨ya, hp, hw, hps⟩ := hI
                              simp [Region.binds] at hd
                              have e7 := hp.pu (7, 113, (.tuple #[.agg #[.int .u8 (Rt.kind : Int), .int .u32 (Rt.next : Int), .slice ya.A ya.nF ya.cA, .slice ya.D ya.nD ya.cD], .int .i64 Re])) (by simp [r20P]) (by simp [hd])
                              simp only at e7
                              have f7 : a.tmps[113]?.getD undef = (.tuple #[.agg #[.int .u8 (Rt.kind : Int), .int .u32 (Rt.next : Int), .slice ya.A ya.nF ya.cA, .slice ya.D ya.nD ya.cD], .int .i64 Re]) := by rw [← Array.getD_eq_getD_getElem?]; exact e7
                              exact rstep_valW (wanted_none rfl _) (.agg #[.int .u8 (Rt.kind : Int), .int .u32 (Rt.next : Int), .slice ya.A ya.nF ya.cA, .slice ya.D ya.nD ya.cD]) w1 (by go_simp) ⟨ya, (hp.put 8 121 (.agg #[.int .u8 (Rt.kind : Int), .int .u32 (Rt.next : Int), .slice ya.A ya.nF ya.cA, .slice ya.D ya.nD ya.cD]) (by simp [r20P]) (by simp [r20P]) rfl (by rw [hsz0]; decide)), hw, post_upd hps 8 (fun h => by first | exact absurd h (by decide) | (simp [hd]; done) | exact hps 7 (by simp) (by simp [hd]))⟩
                            · intro L a w1 hI hi hd
                              obtain ⟨ya, hp, hw, hps⟩ := hI
                              simp [Region.binds] at hd
                              have e7 := hp.pu (7, 113, (.tuple #[.agg #[.int .u8 (Rt.kind : Int), .int .u32 (Rt.next : Int), .slice ya.A ya.nF ya.cA, .slice ya.D ya.nD ya.cD], .int .i64 Re])) (by simp [r20P]) (by simp [hd])
                              simp only at e7
                              have f7 : a.tmps[113]?.getD undef = (.tuple #[.agg #[.int .u8 (Rt.kind : Int), .int .u32 (Rt.next : Int), .slice ya.A ya.nF ya.cA, .slice ya.D ya.nD ya.cD], .int .i64 Re]) := by rw [← Array.getD_eq_getD_getElem?]; exact e7
                              exact rstep_valW (wanted_none rfl _) (.int .i64 Re) w1 (by go_simp) ⟨ya, (hp.put 9 122 (.int .i64 Re) (by simp [r20P]) (by simp [r20P]) rfl (by rw [hsz0]; decide)), hw, post_upd hps 9 (fun h => by first | exact absurd h (by decide) | (simp [hd]; done) | exact hps 7 (by simp) (by simp [hd]))⟩
                            · intro L a w1 hI hi hd
                              obtain ⟨ya, hp, hw, hps⟩ := hI
                              simp [Region.binds] at hd
                              have e8 := hp.pu (8, 121, (.agg #[.int .u8 (Rt.kind : Int), .int .u32 (Rt.next : Int), .slice ya.A ya.nF ya.cA, .slice ya.D ya.nD ya.cD])) (by simp [r20P]) (by simp [hd])
                              simp only at e8
                              have f8 : a.tmps[121]?.getD undef = (.agg #[.int .u8 (Rt.kind : Int), .int .u32 (Rt.next : Int), .slice ya.A ya.nF ya.cA, .slice ya.D ya.nD ya.cD]) := by rw [← Array.getD_eq_getD_getElem?]; exact e8
                              have t10 := hp.at_ 10 _ rfl z10
                              have t10' := t10
                              rw [Array.getD_eq_getD_getElem?] at t10'
                              have hi : L 10 = false := hi
                              have qc : L 6 = true := by simp [hd]
                              have hqn := hqV.call (hw.b0 hi)
                              have hG := hqn.b10
                              obtain ⟨v0, v1, v2, v3⟩ := hG.c4
                              have k0 := hG.frozen 0
                              have k1 := hG.frozen 1
                              have k2 := hG.frozen 2
                              have k3 := hG.frozen 3
                              have hX := hqn.setY Rt ya ((hw.y qc hi).mono fun k hk => hqV.new hk.1)
                              exact rstep_skip rfl ((((w1.setCell ⟨g10, 0, none⟩ (.int .u8 (Rt.kind : Int))).setCell ⟨g10, 1, none⟩ (.int .u32 (Rt.next : Int))).setCell ⟨g10, 2, none⟩ (.slice ya.A ya.nF ya.cA)).setCell ⟨g10, 3, none⟩ (.slice ya.D ya.nD ya.cD)) (by go_simp) ⟨ya, (hp.skip 10 undef (by simp [r20P])), hw.atS qc hX.bI hX, post_upd hps 10 (fun h => by first | exact absurd h (by decide) | (simp [hd]; done) | exact hps 8 (by simp) (by simp [hd]))⟩
                            · intro L a w1 hI hi hd
                              obtain ⟨ya, hp, hw, hps⟩ := hI
                              simp [Region.binds] at hd
                              have e9 := hp.pu (9, 122, (.int .i64 Re)) (by simp [r20P]) (by simp [hd])
                              simp only at e9
                              have f9 : a.tmps[122]?.getD undef = (.int .i64 Re) := by rw [← Array.getD_eq_getD_getElem?]; exact e9
                              exact rstep_valW (wanted_none rfl _) (.int .i64 Re) w1 (by go_simp) ⟨ya, (hp.put 11 12 (.int .i64 Re) (by simp [r20P]) (by simp [r20P]) rfl (by rw [hsz0]; decide)), hw, post_upd hps 11 (fun h => by first | exact absurd h (by decide) | (simp [hd]; done) | exact hps 9 (by simp) (by simp [hd]))⟩
                    · have n2 : (o.kind == 2) = false := beq_eq_false_iff_ne.2 h2
                      by_cases h3 : o.kind = 3
                      · rw [h3]
                        as_aux_lemma =>
                          obtain ⟨⟨Rb, Re⟩, hR⟩ : ∃ q, SltM.getR t o.at_ = q := ⟨_, rfl⟩
                          go_upto_region 23 with fail
                          have hqV := hq
                          refine wp_named fun a0 ha0 => ?_
                          have z1 : a0.tmps.getD 1 undef = .slice (some ⟨og, oo, none⟩) on oc := by rw [ha0.out]; rfl
                          have z5 : a0.tmps.getD 5 undef = .pointer (some ⟨g5, 0, none⟩) := by rw [ha0.out]; rfl
                          have z7 : a0.tmps.getD 7 undef = .int .i64 (k : Int) := by rw [ha0.out]; rfl
                          have hsz0 : a0.tmps.size = 214 := by rw [ha0.out]; rfl
                          refine wp_region_invB _ (by kernel_rfl) (fun L a wA => ∃ aB an ac, PIF a0 [136, 137, 138, 139, 140, 141, 142, 135, 143, 144, 16, 17] (r23P og oo on oc k o bA cb t x z Re aB an ac) L a ∧ PgW wI wc (fun wA => Own wA wc.heap.size aB ac Rb ∧ Rb.length = an) (L 6) wA ∧ (∀ j, j ∈ [7, 8, 9, 10, 11] → L j = true → L 6 = true)) (by kernel_rfl) ?_ ?_ ?_
                          · exact ⟨none, 0, 0, PIF.start _ _ _, ⟨hqV.drew.bI, ⟨rfl, rfl, rfl, Nat.le_refl _, fun _ _ => rfl⟩, nofun⟩, nofun⟩
                          · rintro L a wA ⟨aB, an, ac, hp, hw, hps⟩ hL
                            have e16 := hp.pu (10, 16, (.slice aB an ac)) (by simp [r23P]) (hL 10 (by simp))
                            simp only at e16
                            have e17 := hp.pu (11, 17, (.int .i64 Re)) (by simp [r23P]) (hL 11 (by simp))
                            simp only at e17
                            have hF := hw.fin (hL 6 (by simp))
                            have hbV := hw.b0
                            rw [hp.eq]
                            refine of_assigns (P := Try.prog) _ _ _ _ ?_
                            rw [ha0.out]
                            simp only [asgs, List.map, e16, e17]
                            generalize a.tmps.getD 135 undef = q135
                            generalize a.tmps.getD 136 undef = q136
                            generalize a.tmps.getD 137 undef = q137
                            generalize a.tmps.getD 138 undef = q138
                            generalize a.tmps.getD 139 undef = q139
                            generalize a.tmps.getD 140 undef = q140
                            generalize a.tmps.getD 141 undef = q141
                            generalize a.tmps.getD 142 undef = q142
                            generalize a.tmps.getD 143 undef = q143
                            generalize a.tmps.getD 144 undef = q144
                            clear hp hw hps hL ha0 hsz0 e16 e17 z1 z5 z7
                            clear a0 a L
                            have hFa := hF
                            have hbVa := hbV
                            clear hF hbV
                            have hqV := hqV.call hbVa
                            go_upto_region 24 with fail
                            refine wp_named fun a0 ha0 => ?_
                            have z1 : a0.tmps.getD 1 undef = .slice (some ⟨og, oo, none⟩) on oc := by rw [ha0.out]; rfl
                            have z6 : a0.tmps.getD 6 undef = .pointer (some ⟨g6, 0, none⟩) := by rw [ha0.out]; rfl
                            have z7 : a0.tmps.getD 7 undef = .int .i64 (k : Int) := by rw [ha0.out]; rfl
                            have hsz0 : a0.tmps.size = 214 := by rw [ha0.out]; rfl
                            refine wp_region_invB _ (by kernel_rfl) (fun L a wB => ∃ dB dn dc, PIF a0 [146, 147, 148, 149, 150, 151, 152, 145, 153, 154, 18, 19] (r24P og oo on oc k o bA cb t x z Re dB dn dc) L a ∧ PgW wI wA (fun wB => Row wB dB (bs Rb) ∧ Rb.length = dn) (L 6) wB ∧ (∀ j, j ∈ [7, 8, 9, 10, 11] → L j = true → L 6 = true)) (by kernel_rfl) ?_ ?_ ?_
                            · exact ⟨none, 0, 0, PIF.start _ _ _, ⟨hqV.drew.bI, ⟨rfl, rfl, rfl, Nat.le_refl _, fun _ _ => rfl⟩, nofun⟩, nofun⟩
                            · rintro L a wB ⟨dB, dn, dc, hp, hw, hps⟩ hL
                              have e18 := hp.pu (10, 18, (.slice dB dn dc)) (by simp [r24P]) (hL 10 (by simp))
                              simp only at e18
                              have e19 := hp.pu (11, 19, (.int .i64 Re)) (by simp [r24P]) (hL 11 (by simp))
                              simp only at e19
                              have hF := hw.fin (hL 6 (by simp))
                              have hbV := hw.b0
                              rw [hp.eq]
                              refine of_assigns (P := Try.prog) _ _ _ _ ?_
                              rw [ha0.out]
                              simp only [asgs, List.map, e18, e19]
                              generalize a.tmps.getD 145 undef = q145
                              generalize a.tmps.getD 146 undef = q146
                              generalize a.tmps.getD 147 undef = q147
                              generalize a.tmps.getD 148 undef = q148
                              generalize a.tmps.getD 149 undef = q149
                              generalize a.tmps.getD 150 undef = q150
                              generalize a.tmps.getD 151 undef = q151
                              generalize a.tmps.getD 152 undef = q152
                              generalize a.tmps.getD 153 undef = q153
                              generalize a.tmps.getD 154 undef = q154
                              clear hp hw hps hL ha0 hsz0 e18 e19 z1 z6 z7
                              clear a0 a L
                              have hOa := hFa.1.below hbV
                              have han := hFa.2
                              have s1 := str_len wB aB an ac Rb han hOa.row
                              have s2 := str_len wB dB dn dc Rb hF.2 hF.1
                              have sb : ((str Rb).toList == (str Rb).toList) = true := by simp
                              have hbB := below_step hbVa hbV (Nat.le_refl _)
                              have hacn := hOa.le
                              rw [han] at hacn
                              unfold maxLen at hacn
                              clear hFa hF hbV hbVa hqV
                              go_wp2
                              go_loopw [20] (fun i wv => ∃ (j : Nat) (Z : List UInt8), i = .int .i64 (j : Int) ∧ j ≤ an ∧ Z.length = an ∧ Own wv wc.heap.size aB ac Z ∧ Below wc.heap.size wc wv) (fun i _ => an - (RowKit.intOf i).toNat)
                              case atStart => exact ⟨0, Rb, rfl, by omega, han, hOa, hbB⟩
                              case round =>
                                clear s1 s2 sb hOa hbB
                                obtain ⟨j, Z, rfl, hj, hZ, hO, hbz⟩ := hrel
                                by_cases hjl : j < an
                                · obtain ⟨gb, rfl, hgb, hgb2⟩ := hO.some_ (by intro q; rw [q] at hZ; simp at hZ; omega)
                                  obtain ⟨u, hu⟩ : ∃ u, Z[j]? = some u := ⟨_, List.getElem?_eq_getElem (by omega)⟩
                                  have fx := hO.cell hu
                                  have fz := hO.frozen j
                                  have xx := add_u8 u
                                  obtain ⟨v, hv⟩ : ∃ v, u + 1 = v := ⟨_, rfl⟩
                                  rw [hv] at xx
                                  clear hv hu
                                  go_wp2
                                  go_roundw
                                  case rel => exact ⟨j + 1, Z.set j v, by go_num, by omega, by rw [List.length_set]; exact hZ, hO.set_ j v, hbz.grown (grownBy_setCell _ _ _ _) hbz.size (fun q hq => by injection hq with hq; omega)⟩
                                  case measure => simp [RowKit.intOf]; omega
                                · clear hO
                                  go_wp2
                                  go_meet
                                  case rel => exact ⟨t, x, z, 0, 0, rfl, rfl, rfl, rfl, hbt, hq.call hbz⟩
                            · as_aux_lemma =>
                                refine ⟨?_, ?_, ?_, ?_, ?_, ?_, ?_, ?_, ?_, ?_, ?_, ?_, trivial⟩
                                · intro L a w1 hI hi hd
                                  obtain ⟨dB, dn, dc, hp, hw, hps⟩ := hI
                                  have t6 := hp.at_ 6 _ rfl z6
                                  have t6' := t6
                                  rw [Array.getD_eq_getD_getElem?] at t6'
                                  obtain ⟨x0, x1, x2, x3⟩ := (hP.b6.below hw.bI hP.b6.lt).c4
                                  exact rstep_valW (wanted_none rfl _) (.agg #[.int .u8 (t.kind : Int), .int .u32 (t.next : Int), .slice z.A z.nF z.cA, .slice z.D z.nD z.cD]) w1 (by go_simp) ⟨dB, dn, dc, (hp.put 0 146 (.agg #[.int .u8 (t.kind : Int), .int .u32 (t.next : Int), .slice z.A z.nF z.cA, .slice z.D z.nD z.cD]) (by simp [r24P]) (by simp [r24P]) rfl (by rw [hsz0]; decide)), hw, post_upd hps 0 (fun h => by first | exact absurd h (by decide) | (simp [hd]; done) | exact hps 0 (by simp) (by simp [hd]))⟩
                                · intro L a w1 hI hi hd
                                  obtain ⟨dB, dn, dc, hp, hw, hps⟩ := hI
                                  have t1 := hp.at_ 1 _ rfl z1
                                  have t1' := t1
                                  rw [Array.getD_eq_getD_getElem?] at t1'
                                  exact rstep_valW (wanted_none rfl _) (.slice (some ⟨og, oo, none⟩) on oc) w1 (by go_simp) ⟨dB, dn, dc, (hp.put 1 147 (.slice (some ⟨og, oo, none⟩) on oc) (by simp [r24P]) (by simp [r24P]) rfl (by rw [hsz0]; decide)), hw, post_upd hps 1 (fun h => by first | exact absurd h (by decide) | (simp [hd]; done) | exact hps 0 (by simp) (by simp [hd]))⟩
                                · intro L a w1 hI hi hd
                                  obtain ⟨dB, dn, dc, hp, hw, hps⟩ := hI
                                  have t7 := hp.at_ 7 _ rfl z7
                                  have t7' := t7
                                  rw [Array.getD_eq_getD_getElem?] at t7'
                                  exact rstep_valW (wanted_none rfl _) (.int .i64 (k : Int)) w1 (by go_simp) ⟨dB, dn, dc, (hp.put 2 148 (.int .i64 (k : Int)) (by simp [r24P]) (by simp [r24P]) rfl (by rw [hsz0]; decide)), hw, post_upd hps 2 (fun h => by first | exact absurd h (by decide) | (simp [hd]; done) | exact hps 0 (by simp) (by simp [hd]))⟩
                                · intro L a w1 hI hi hd
                                  obtain ⟨dB, dn, dc, hp, hw, hps⟩ := hI
                                  simp [Region.binds] at hd
                                  have e1 := hp.pu (1, 147, (.slice (some ⟨og, oo, none⟩) on oc)) (by simp [r24P]) (by simp [hd])
                                  simp only at e1
                                  have f1 : a.tmps[147]?.getD undef = (.slice (some ⟨og, oo, none⟩) on oc) := by rw [← Array.getD_eq_getD_getElem?]; exact e1
                                  have e2 := hp.pu (2, 148, (.int .i64 (k : Int))) (by simp [r24P]) (by simp [hd])
                                  simp only at e2
                                  have f2 : a.tmps[148]?.getD undef = (.int .i64 (k : Int)) := by rw [← Array.getD_eq_getD_getElem?]; exact e2
                                  exact rstep_valW (wanted_none rfl _) (.pointer (some ⟨og, oo + k * 3, none⟩)) w1 (by go_simp) ⟨dB, dn, dc, (hp.put 3 149 (.pointer (some ⟨og, oo + k * 3, none⟩)) (by simp [r24P]) (by simp [r24P]) rfl (by rw [hsz0]; decide)), hw, post_upd hps 3 (fun h => by first | exact absurd h (by decide) | (simp [hd]; done) | exact hps 1 (by simp) (by simp [hd]))⟩
                                · intro L a w1 hI hi hd
                                  obtain ⟨dB, dn, dc, hp, hw, hps⟩ := hI
                                  simp [Region.binds] at hd
                                  have e3 := hp.pu (3, 149, (.pointer (some ⟨og, oo + k * 3, none⟩))) (by simp [r24P]) (by simp [hd])
                                  simp only at e3
                                  have f3 : a.tmps[149]?.getD undef = (.pointer (some ⟨og, oo + k * 3, none⟩)) := by rw [← Array.getD_eq_getD_getElem?]; exact e3
                                  exact rstep_valW (wanted_none rfl _) (.pointer (some ⟨og, oo + k * 3 + 1, none⟩)) w1 (by go_simp) ⟨dB, dn, dc, (hp.put 4 150 (.pointer (some ⟨og, oo + k * 3 + 1, none⟩)) (by simp [r24P]) (by simp [r24P]) rfl (by rw [hsz0]; decide)), hw, post_upd hps 4 (fun h => by first | exact absurd h (by decide) | (simp [hd]; done) | exact hps 3 (by simp) (by simp [hd]))⟩
                                · intro L a w1 hI hi hd
                                  obtain ⟨dB, dn, dc, hp, hw, hps⟩ := hI
                                  simp [Region.binds] at hd
                                  have e4 := hp.pu (4, 150, (.pointer (some ⟨og, oo + k * 3 + 1, none⟩))) (by simp [r24P]) (by simp [hd])
                                  simp only at e4
                                  have f4 : a.tmps[150]?.getD undef = (.pointer (some ⟨og, oo + k * 3 + 1, none⟩)) := by rw [← Array.getD_eq_getD_getElem?]; exact e4
                                  have hcl : w1.cell? ⟨og, oo + k * 3 + 1, none⟩ = some (.int .i64 o.at_) := by rw [hw.bI.cell (World.block_lt_of_cell? wI _ hc1)]; exact hc1
                                  exact rstep_valW (wanted_none rfl _) (.int .i64 o.at_) w1 (by go_simp) ⟨dB, dn, dc, (hp.put 5 151 (.int .i64 o.at_) (by simp [r24P]) (by simp [r24P]) rfl (by rw [hsz0]; decide)), hw, post_upd hps 5 (fun h => by first | exact absurd h (by decide) | (simp [hd]; done) | exact hps 4 (by simp) (by simp [hd]))⟩
                                · intro L a w1 hI hi hd
                                  obtain ⟨dB, dn, dc, hp, hw, hps⟩ := hI
                                  simp [Region.binds] at hd
                                  have e0 := hp.pu (0, 146, (.agg #[.int .u8 (t.kind : Int), .int .u32 (t.next : Int), .slice z.A z.nF z.cA, .slice z.D z.nD z.cD])) (by simp [r24P]) (by simp [hd])
                                  simp only at e0
                                  have f0 : a.tmps[146]?.getD undef = (.agg #[.int .u8 (t.kind : Int), .int .u32 (t.next : Int), .slice z.A z.nF z.cA, .slice z.D z.nD z.cD]) := by rw [← Array.getD_eq_getD_getElem?]; exact e0
                                  have e5 := hp.pu (5, 151, (.int .i64 o.at_)) (by simp [r24P]) (by simp [hd])
                                  simp only at e5
                                  have f5 : a.tmps[151]?.getD undef = (.int .i64 o.at_) := by rw [← Array.getD_eq_getD_getElem?]; exact e5
                                  have hi : L 6 = false := hi
                                  refine rstep_callW (wanted_none rfl _) 21 #[.agg #[.int .u8 (t.kind : Int), .int .u32 (t.next : Int), .slice z.A z.nF z.cA, .slice z.D z.nD z.cD], .int .i64 o.at_] (by go_simp) ?_
                                  have hc := rgetX (hP.hz.below hw.bI (Q := fun _ => True) fun _ _ => trivial) hbt o.at_
                                  rw [hR] at hc
                                  refine hc.mono ?_
                                  rintro e w2 ⟨B2, n2, c2, rfl, hn2, hO, hb⟩
                                  exact ⟨B2, n2, c2, PIF.put (PIF.swap (p2 := (r24P og oo on oc k o bA cb t x z Re B2 n2 c2)) hp (by intro q hq hL; simp only [r24P, List.mem_cons, List.not_mem_nil, or_false] at hq; rcases hq with rfl | rfl | rfl | rfl | rfl | rfl | rfl | rfl | rfl | rfl | rfl | rfl <;> first | (simp [r24P]; done) | exact absurd hL (by show ¬ L 6 = true; rw [hi]; simp) | exact absurd (hps _ (by simp) hL) (by rw [hi]; simp))) 6 152 (.tuple #[.slice B2 n2 c2, .int .i64 Re]) (by simp [r24P]) (by simp [r24P]) rfl (by rw [hsz0]; decide), ⟨below_step hw.bI hb (Nat.le_refl _), below_step hw.b0 hb (Nat.le_refl _), fun _ => ⟨hO, hn2⟩⟩, post_upd hps 6 (fun h => by first | exact absurd h (by decide) | (simp [hd]; done) | exact hps 0 (by simp) (by simp [hd]))⟩
                                · intro L a w1 hI hi hd
                                  obtain ⟨dB, dn, dc, hp, hw, hps⟩ := hI
                                  simp [Region.binds] at hd
                                  have e6 := hp.pu (6, 152, (.tuple #[.slice dB dn dc, .int .i64 Re])) (by simp [r24P]) (by simp [hd])
                                  simp only at e6
                                  have f6 : a.tmps[152]?.getD undef = (.tuple #[.slice dB dn dc, .int .i64 Re]) := by rw [← Array.getD_eq_getD_getElem?]; exact e6
                                  exact rstep_valW (wanted_none rfl _) (.tuple #[.slice dB dn dc, .int .i64 Re]) w1 (by go_simp) ⟨dB, dn, dc, (hp.put 7 145 (.tuple #[.slice dB dn dc, .int .i64 Re]) (by simp [r24P]) (by simp [r24P]) rfl (by rw [hsz0]; decide)), hw, post_upd hps 7 (fun h => by first | exact absurd h (by decide) | (simp [hd]; done) | exact hps 6 (by simp) (by simp [hd]))⟩
                                · intro L a w1 hI hi hd
                                  obtain ⟨dB, dn, dc, hp, hw, hps⟩ := hI
                                  simp [Region.binds] at hd
                                  have e7 := hp.pu (7, 145, (.tuple #[.slice dB dn dc, .int .i64 Re])) (by simp [r24P]) (by simp [hd])
                                  simp only at e7
                                  have f7 : a.tmps[145]?.getD undef = (.tuple #[.slice dB dn dc, .int .i64 Re]) := by rw [← Array.getD_eq_getD_getElem?]; exact e7
                                  exact rstep_valW (wanted_none rfl _) (.slice dB dn dc) w1 (by go_simp) ⟨dB, dn, dc, (hp.put 8 153 (.slice dB dn dc) (by simp [r24P]) (by simp [r24P]) rfl (by rw [hsz0]; decide)), hw, post_upd hps 8 (fun h => by first | exact absurd h (by decide) | (simp [hd]; done) | exact hps 7 (by simp) (by simp [hd]))⟩
                                · intro L a w1 hI hi hd
                                  obtain ⟨dB, dn, dc, hp, hw, hps⟩ := hI
                                  simp [Region.binds] at hd
                                  have e7 := hp.pu (7, 145, (.tuple #[.slice dB dn dc, .int .i64 Re])) (by simp [r24P]) (by simp [hd])
                                  simp only at e7
                                  have f7 : a.tmps[145]?.getD undef = (.tuple #[.slice dB dn dc, .int .i64 Re]) := by rw [← Array.getD_eq_getD_getElem?]; exact e7
                                  exact rstep_valW (wanted_none rfl _) (.int .i64 Re) w1 (by go_simp) ⟨dB, dn, dc, (hp.put 9 154 (.int .i64 Re) (by simp [r24P]) (by simp [r24P]) rfl (by rw [hsz0]; decide)), hw, post_upd hps 9 (fun h => by first | exact absurd h (by decide) | (simp [hd]; done) | exact hps 7 (by simp) (by simp [hd]))⟩
                                · intro L a w1 hI hi hd
                                  obtain ⟨dB, dn, dc, hp, hw, hps⟩ := hI
                                  simp [Region.binds] at hd
                                  have e8 := hp.pu (8, 153, (.slice dB dn dc)) (by simp [r24P]) (by simp [hd])
                                  simp only at e8
                                  have f8 : a.tmps[153]?.getD undef = (.slice dB dn dc) := by rw [← Array.getD_eq_getD_getElem?]; exact e8
                                  exact rstep_valW (wanted_none rfl _) (.slice dB dn dc) w1 (by go_simp) ⟨dB, dn, dc, (hp.put 10 18 (.slice dB dn dc) (by simp [r24P]) (by simp [r24P]) rfl (by rw [hsz0]; decide)), hw, post_upd hps 10 (fun h => by first | exact absurd h (by decide) | (simp [hd]; done) | exact hps 8 (by simp) (by simp [hd]))⟩
                                · intro L a w1 hI hi hd
                                  obtain ⟨dB, dn, dc, hp, hw, hps⟩ := hI
                                  simp [Region.binds] at hd
                                  have e9 := hp.pu (9, 154, (.int .i64 Re)) (by simp [r24P]) (by simp [hd])
                                  simp only at e9
                                  have f9 : a.tmps[154]?.getD undef = (.int .i64 Re) := by rw [← Array.getD_eq_getD_getElem?]; exact e9
                                  exact rstep_valW (wanted_none rfl _) (.int .i64 Re) w1 (by go_simp) ⟨dB, dn, dc, (hp.put 11 19 (.int .i64 Re) (by simp [r24P]) (by simp [r24P]) rfl (by rw [hsz0]; decide)), hw, post_upd hps 11 (fun h => by first | exact absurd h (by decide) | (simp [hd]; done) | exact hps 9 (by simp) (by simp [hd]))⟩
                          · as_aux_lemma =>
                              refine ⟨?_, ?_, ?_, ?_, ?_, ?_, ?_, ?_, ?_, ?_, ?_, ?_, trivial⟩
                              · intro L a w1 hI hi hd
                                obtain ⟨aB, an, ac, hp, hw, hps⟩ := hI
                                have t5 := hp.at_ 5 _ rfl z5
                                have t5' := t5
                                rw [Array.getD_eq_getD_getElem?] at t5'
                                obtain ⟨x0, x1, x2, x3⟩ := (hP.b5.below hw.bI hP.b5.lt).c4
                                exact rstep_valW (wanted_none rfl _) (.agg #[.int .u8 (t.kind : Int), .int .u32 (t.next : Int), .slice x.A x.nF x.cA, .slice x.D x.nD x.cD]) w1 (by go_simp) ⟨aB, an, ac, (hp.put 0 136 (.agg #[.int .u8 (t.kind : Int), .int .u32 (t.next : Int), .slice x.A x.nF x.cA, .slice x.D x.nD x.cD]) (by simp [r23P]) (by simp [r23P]) rfl (by rw [hsz0]; decide)), hw, post_upd hps 0 (fun h => by first | exact absurd h (by decide) | (simp [hd]; done) | exact hps 0 (by simp) (by simp [hd]))⟩
                              · intro L a w1 hI hi hd
                                obtain ⟨aB, an, ac, hp, hw, hps⟩ := hI
                                have t1 := hp.at_ 1 _ rfl z1
                                have t1' := t1
                                rw [Array.getD_eq_getD_getElem?] at t1'
                                exact rstep_valW (wanted_none rfl _) (.slice (some ⟨og, oo, none⟩) on oc) w1 (by go_simp) ⟨aB, an, ac, (hp.put 1 137 (.slice (some ⟨og, oo, none⟩) on oc) (by simp [r23P]) (by simp [r23P]) rfl (by rw [hsz0]; decide)), hw, post_upd hps 1 (fun h => by first | exact absurd h (by decide) | (simp [hd]; done) | exact hps 0 (by simp) (by simp [hd]))⟩
                              · intro L a w1 hI hi hd
                                obtain ⟨aB, an, ac, hp, hw, hps⟩ := hI
                                have t7 := hp.at_ 7 _ rfl z7
                                have t7' := t7
                                rw [Array.getD_eq_getD_getElem?] at t7'
                                exact rstep_valW (wanted_none rfl _) (.int .i64 (k : Int)) w1 (by go_simp) ⟨aB, an, ac, (hp.put 2 138 (.int .i64 (k : Int)) (by simp [r23P]) (by simp [r23P]) rfl (by rw [hsz0]; decide)), hw, post_upd hps 2 (fun h => by first | exact absurd h (by decide) | (simp [hd]; done) | exact hps 0 (by simp) (by simp [hd]))⟩
                              · intro L a w1 hI hi hd
                                obtain ⟨aB, an, ac, hp, hw, hps⟩ := hI
                                simp [Region.binds] at hd
                                have e1 := hp.pu (1, 137, (.slice (some ⟨og, oo, none⟩) on oc)) (by simp [r23P]) (by simp [hd])
                                simp only at e1
                                have f1 : a.tmps[137]?.getD undef = (.slice (some ⟨og, oo, none⟩) on oc) := by rw [← Array.getD_eq_getD_getElem?]; exact e1
                                have e2 := hp.pu (2, 138, (.int .i64 (k : Int))) (by simp [r23P]) (by simp [hd])
                                simp only at e2
                                have f2 : a.tmps[138]?.getD undef = (.int .i64 (k : Int)) := by rw [← Array.getD_eq_getD_getElem?]; exact e2
                                exact rstep_valW (wanted_none rfl _) (.pointer (some ⟨og, oo + k * 3, none⟩)) w1 (by go_simp) ⟨aB, an, ac, (hp.put 3 139 (.pointer (some ⟨og, oo + k * 3, none⟩)) (by simp [r23P]) (by simp [r23P]) rfl (by rw [hsz0]; decide)), hw, post_upd hps 3 (fun h => by first | exact absurd h (by decide) | (simp [hd]; done) | exact hps 1 (by simp) (by simp [hd]))⟩
                              · intro L a w1 hI hi hd
                                obtain ⟨aB, an, ac, hp, hw, hps⟩ := hI
                                simp [Region.binds] at hd
                                have e3 := hp.pu (3, 139, (.pointer (some ⟨og, oo + k * 3, none⟩))) (by simp [r23P]) (by simp [hd])
                                simp only at e3
                                have f3 : a.tmps[139]?.getD undef = (.pointer (some ⟨og, oo + k * 3, none⟩)) := by rw [← Array.getD_eq_getD_getElem?]; exact e3
                                exact rstep_valW (wanted_none rfl _) (.pointer (some ⟨og, oo + k * 3 + 1, none⟩)) w1 (by go_simp) ⟨aB, an, ac, (hp.put 4 140 (.pointer (some ⟨og, oo + k * 3 + 1, none⟩)) (by simp [r23P]) (by simp [r23P]) rfl (by rw [hsz0]; decide)), hw, post_upd hps 4 (fun h => by first | exact absurd h (by decide) | (simp [hd]; done) | exact hps 3 (by simp) (by simp [hd]))⟩
                              · intro L a w1 hI hi hd
                                obtain ⟨aB, an, ac, hp, hw, hps⟩ := hI
                                simp [Region.binds] at hd
                                have e4 := hp.pu (4, 140, (.pointer (some ⟨og, oo + k * 3 + 1, none⟩))) (by simp [r23P]) (by simp [hd])
                                simp only at e4
                                have f4 : a.tmps[140]?.getD undef = (.pointer (some ⟨og, oo + k * 3 + 1, none⟩)) := by rw [← Array.getD_eq_getD_getElem?]; exact e4
                                have hcl : w1.cell? ⟨og, oo + k * 3 + 1, none⟩ = some (.int .i64 o.at_) := by rw [hw.bI.cell (World.block_lt_of_cell? wI _ hc1)]; exact hc1
                                exact rstep_valW (wanted_none rfl _) (.int .i64 o.at_) w1 (by go_simp) ⟨aB, an, ac, (hp.put 5 141 (.int .i64 o.at_) (by simp [r23P]) (by simp [r23P]) rfl (by rw [hsz0]; decide)), hw, post_upd hps 5 (fun h => by first | exact absurd h (by decide) | (simp [hd]; done) | exact hps 4 (by simp) (by simp [hd]))⟩
                              · intro L a w1 hI hi hd
                                obtain ⟨aB, an, ac, hp, hw, hps⟩ := hI
                                simp [Region.binds] at hd
                                have e0 := hp.pu (0, 136, (.agg #[.int .u8 (t.kind : Int), .int .u32 (t.next : Int), .slice x.A x.nF x.cA, .slice x.D x.nD x.cD])) (by simp [r23P]) (by simp [hd])
                                simp only at e0
                                have f0 : a.tmps[136]?.getD undef = (.agg #[.int .u8 (t.kind : Int), .int .u32 (t.next : Int), .slice x.A x.nF x.cA, .slice x.D x.nD x.cD]) := by rw [← Array.getD_eq_getD_getElem?]; exact e0
                                have e5 := hp.pu (5, 141, (.int .i64 o.at_)) (by simp [r23P]) (by simp [hd])
                                simp only at e5
                                have f5 : a.tmps[141]?.getD undef = (.int .i64 o.at_) := by rw [← Array.getD_eq_getD_getElem?]; exact e5
                                have hi : L 6 = false := hi
                                refine rstep_callW (wanted_none rfl _) 11 #[.agg #[.int .u8 (t.kind : Int), .int .u32 (t.next : Int), .slice x.A x.nF x.cA, .slice x.D x.nD x.cD], .int .i64 o.at_] (by go_simp) ?_
                                have hc := getX (hP.hx.below hw.bI (Q := fun _ => True) fun _ _ => trivial) hbt o.at_
                                rw [hR] at hc
                                refine hc.mono ?_
                                rintro e w2 ⟨B2, n2, c2, rfl, hn2, hO, hb⟩
                                exact ⟨B2, n2, c2, PIF.put (PIF.swap (p2 := (r23P og oo on oc k o bA cb t x z Re B2 n2 c2)) hp (by intro q hq hL; simp only [r23P, List.mem_cons, List.not_mem_nil, or_false] at hq; rcases hq with rfl | rfl | rfl | rfl | rfl | rfl | rfl | rfl | rfl | rfl | rfl | rfl <;> first | (simp [r23P]; done) | exact absurd hL (by show ¬ L 6 = true; rw [hi]; simp) | exact absurd (hps _ (by simp) hL) (by rw [hi]; simp))) 6 142 (.tuple #[.slice B2 n2 c2, .int .i64 Re]) (by simp [r23P]) (by simp [r23P]) rfl (by rw [hsz0]; decide), ⟨below_step hw.bI hb (Nat.le_refl _), below_step hw.b0 hb (Nat.le_refl _), fun _ => ⟨(hO.base_ (hw.b0.size)), hn2⟩⟩, post_upd hps 6 (fun h => by first | exact absurd h (by decide) | (simp [hd]; done) | exact hps 0 (by simp) (by simp [hd]))⟩
                              · intro L a w1 hI hi hd
                                obtain ⟨aB, an, ac, hp, hw, hps⟩ := hI
                                simp [Region.binds] at hd
                                have e6 := hp.pu (6, 142, (.tuple #[.slice aB an ac, .int .i64 Re])) (by simp [r23P]) (by simp [hd])
                                simp only at e6
                                have f6 : a.tmps[142]?.getD undef = (.tuple #[.slice aB an ac, .int .i64 Re]) := by rw [← Array.getD_eq_getD_getElem?]; exact e6
                                exact rstep_valW (wanted_none rfl _) (.tuple #[.slice aB an ac, .int .i64 Re]) w1 (by go_simp) ⟨aB, an, ac, (hp.put 7 135 (.tuple #[.slice aB an ac, .int .i64 Re]) (by simp [r23P]) (by simp [r23P]) rfl (by rw [hsz0]; decide)), hw, post_upd hps 7 (fun h => by first | exact absurd h (by decide) | (simp [hd]; done) | exact hps 6 (by simp) (by simp [hd]))⟩
                              · intro L a w1 hI hi hd
                                obtain ⟨aB, an, ac, hp, hw, hps⟩ := hI
                                simp [Region.binds] at hd
                                have e7 := hp.pu (7, 135, (.tuple #[.slice aB an ac, .int .i64 Re])) (by simp [r23P]) (by simp [hd])
                                simp only at e7
                                have f7 : a.tmps[135]?.getD undef = (.tuple #[.slice aB an ac, .int .i64 Re]) := by rw [← Array.getD_eq_getD_getElem?]; exact e7
                                exact rstep_valW (wanted_none rfl _) (.slice aB an ac) w1 (by go_simp) ⟨aB, an, ac, (hp.put 8 143 (.slice aB an ac) (by simp [r23P]) (by simp [r23P]) rfl (by rw [hsz0]; decide)), hw, post_upd hps 8 (fun h => by first | exact absurd h (by decide) | (simp [hd]; done) | exact hps 7 (by simp) (by simp [hd]))⟩
                              · intro L a w1 hI hi hd
                                obtain ⟨aB, an, ac, hp, hw, hps⟩ := hI
                                simp [Region.binds] at hd
                                have e7 := hp.pu (7, 135, (.tuple #[.slice aB an ac, .int .i64 Re])) (by simp [r23P]) (by simp [hd])
                                simp only at e7
                                have f7 : a.tmps[135]?.getD undef = (.tuple #[.slice aB an ac, .int .i64 Re]) := by rw [← Array.getD_eq_getD_getElem?]; exact e7
                                exact rstep_valW (wanted_none rfl _) (.int .i64 Re) w1 (by go_simp) ⟨aB, an, ac, (hp.put 9 144 (.int .i64 Re) (by simp [r23P]) (by simp [r23P]) rfl (by rw [hsz0]; decide)), hw, post_upd hps 9 (fun h => by first | exact absurd h (by decide) | (simp [hd]; done) | exact hps 7 (by simp) (by simp [hd]))⟩
                              · intro L a w1 hI hi hd
                                obtain ⟨aB, an, ac, hp, hw, hps⟩ := hI
                                simp [Region.binds] at hd
                                have e8 := hp.pu (8, 143, (.slice aB an ac)) (by simp [r23P]) (by simp [hd])
                                simp only at e8
                                have f8 : a.tmps[143]?.getD undef = (.slice aB an ac) := by rw [← Array.getD_eq_getD_getElem?]; exact e8
                                exact rstep_valW (wanted_none rfl _) (.slice aB an ac) w1 (by go_simp) ⟨aB, an, ac, (hp.put 10 16 (.slice aB an ac) (by simp [r23P]) (by simp [r23P]) rfl (by rw [hsz0]; decide)), hw, post_upd hps 10 (fun h => by first | exact absurd h (by decide) | (simp [hd]; done) | exact hps 8 (by simp) (by simp [hd]))⟩
                              · intro L a w1 hI hi hd
                                obtain ⟨aB, an, ac, hp, hw, hps⟩ := hI
                                simp [Region.binds] at hd
                                have e9 := hp.pu (9, 144, (.int .i64 Re)) (by simp [r23P]) (by simp [hd])
                                simp only at e9
                                have f9 : a.tmps[144]?.getD undef = (.int .i64 Re) := by rw [← Array.getD_eq_getD_getElem?]; exact e9
                                exact rstep_valW (wanted_none rfl _) (.int .i64 Re) w1 (by go_simp) ⟨aB, an, ac, (hp.put 11 17 (.int .i64 Re) (by simp [r23P]) (by simp [r23P]) rfl (by rw [hsz0]; decide)), hw, post_upd hps 11 (fun h => by first | exact absurd h (by decide) | (simp [hd]; done) | exact hps 9 (by simp) (by simp [hd]))⟩
                      · have n3 : (o.kind == 3) = false := beq_eq_false_iff_ne.2 h3
                        go_wp2
                        go_meet
                        case rel => exact ⟨t, x, z, 0, 0, rfl, rfl, rfl, rfl, hbt, hq⟩
              as_aux_lemma =>
                obtain ⟨R, y, z', a1, e1, rfl, rfl, rfl, rfl, hRb, hq2⟩ := hcut
                go_wp2
                go_loopw [21] (fun i wv => ∃ (j : Nat) (Z : List UInt8), i = .int .i64 (j : Int) ∧ j ≤ o.b.length ∧ Z.length = o.b.length ∧ Pq wI g5 g6 g8 g10 g13 bA o.b.length cb Z t was R y R z' wv) (fun i _ => o.b.length - (RowKit.intOf i).toNat)
                case atStart => exact ⟨0, o.b, rfl, by omega, rfl, hq2⟩
                case round =>
                  clear hq2 hq
                  obtain ⟨j, Z, rfl, hj, hZ, hqz⟩ := hrel
                  have hOw : Own wr wI.heap.size bA cb Z := by unfold Own; rw [hZ]; exact hqz.ob
                  by_cases hjl : j < o.b.length
                  · obtain ⟨gb, rfl, hgb, hgb2⟩ := hOw.some_ (by intro q; rw [q] at hZ; simp at hZ; omega)
                    obtain ⟨u, hu⟩ : ∃ u, Z[j]? = some u := ⟨_, List.getElem?_eq_getElem (by omega)⟩
                    have fx := hOw.cell hu
                    have fz := hOw.frozen j
                    have xx := add_u8 u
                    have hcl := hOw.le
                    rw [hZ] at hcl
                    unfold maxLen at hcl
                    obtain ⟨v, hv⟩ : ∃ v, u + 1 = v := ⟨_, rfl⟩
                    rw [hv] at xx
                    clear hv hu
                    go_wp2
                    go_roundw
                    case rel => exact ⟨j + 1, Z.set j v, by go_num, by omega, by rw [List.length_set]; exact hZ, hqz.setB j v⟩
                    case measure => simp [RowKit.intOf]; omega
                  · have hPz := hP.later hqz.bI
                    clear hOw
                    obtain ⟨c0, c1, c2, c3⟩ := hqz.b10.c4
                    obtain ⟨c4, c5, c6, c7⟩ := hqz.b13.c4
                    go_wp2_with fail
                    clear c0 c1 c2 c3 c4 c5 c6 c7
                    refine (sameX hqz.xy hqz.xz hRb).mono ?_
                    rintro e wS ⟨rfl, hbS⟩
                    have hqS := hqz.call hbS
                    have hPS := hPz.later hbS
                    obtain ⟨c0, c1, c2, c3⟩ := hPS.b5.c4
                    obtain ⟨c4, c5, c6, c7⟩ := hqS.b8.c4
                    go_wp2_with fail
                    clear c0 c1 c2 c3 c4 c5 c6 c7
                    refine (sameX hPS.hx hqS.xw hPS.bd).mono ?_
                    rintro e wT ⟨rfl, hbT⟩
                    have hqT := hqS.call hbT
                    have hPT := hPS.later hbT
                    clear hqz hPz hqS hPS hbS hbT
                    by_cases he : e1 = 0
                    · subst he
                      go_upto_region 38 with fail
                      refine wp_named fun a0 ha0 => ?_
                      have z5 : a0.tmps.getD 5 undef = .pointer (some ⟨g5, 0, none⟩) := by rw [ha0.out]; rfl
                      have z6 : a0.tmps.getD 6 undef = .pointer (some ⟨g6, 0, none⟩) := by rw [ha0.out]; rfl
                      have z10 : a0.tmps.getD 10 undef = .pointer (some ⟨g10, 0, none⟩) := by rw [ha0.out]; rfl
                      have z13 : a0.tmps.getD 13 undef = .pointer (some ⟨g13, 0, none⟩) := by rw [ha0.out]; rfl
                      have hsz0 : a0.tmps.size = 214 := by rw [ha0.out]; rfl
                      refine wp_region_invB _ (by kernel_rfl) (fun L a wv => PIF a0 [211, 212] (peP R y z') L a ∧ PeW w g5 g6 g10 g13 t x z R y z' (L 2) (L 3) wv) (by kernel_rfl) ?_ ?_ ?_
                      · have hqD := hqT.drew
                        exact ⟨PIF.start _ _ _, PeW.start hP hqD hRb (hqD.xy.lt.mono fun k hk => ⟨hk.1.1, hk.1.2.1, hk.2⟩) (hqD.xz.lt.mono fun k hk => ⟨hk.1.1, hk.1.2.1, hk.2⟩)⟩
                      · rintro L a wv ⟨hp, hw⟩ hL
                        rw [hL 2 (by simp), hL 3 (by simp)] at hw
                        have hPn : Pst w w.heap.size g5 g6 R y z' wv := hw.pst
                        rw [hp.eq, ha0.out]
                        simp only [putAll]
                        generalize a.tmps.getD 211 undef = q211
                        generalize a.tmps.getD 212 undef = q212
                        clear hp hw hL ha0 z5 z6 z10 z13 hsz0
                        clear a0 a L
                        go_wp2
                        go_roundw
                        case rel => (repeat apply Exists.intro (α := Value)); first | exact ⟨k + 1, R, y, z', by go_num, by omega, hPn⟩ | exact ⟨k + 1, R, y, z', ⟨by go_num, by omega, hPn⟩, rfl⟩
                        case measure => simp [RowKit.intOf]; omega
                      · refine ⟨?_, ?_, ?_, ?_, trivial⟩
                        · intro L a w1 hI hi hd
                          obtain ⟨hp, hw⟩ := hI
                          have t10 := hp.at_ 10 _ rfl z10
                          have t10' := t10
                          rw [Array.getD_eq_getD_getElem?] at t10'
                          obtain ⟨x0, x1, x2, x3⟩ := hw.b10.c4
                          exact rstep_valW (wanted_none rfl _) (.agg #[.int .u8 (R.kind : Int), .int .u32 (R.next : Int), .slice y.A y.nF y.cA, .slice y.D y.nD y.cD]) w1 (by go_simp) ⟨(hp.put 0 211 (.agg #[.int .u8 (R.kind : Int), .int .u32 (R.next : Int), .slice y.A y.nF y.cA, .slice y.D y.nD y.cD]) (by simp [peP]) (by simp [peP]) rfl (by rw [hsz0]; decide)), hw⟩
                        · intro L a w1 hI hi hd
                          obtain ⟨hp, hw⟩ := hI
                          have t13 := hp.at_ 13 _ rfl z13
                          have t13' := t13
                          rw [Array.getD_eq_getD_getElem?] at t13'
                          obtain ⟨x0, x1, x2, x3⟩ := hw.b13.c4
                          exact rstep_valW (wanted_none rfl _) (.agg #[.int .u8 (R.kind : Int), .int .u32 (R.next : Int), .slice z'.A z'.nF z'.cA, .slice z'.D z'.nD z'.cD]) w1 (by go_simp) ⟨(hp.put 1 212 (.agg #[.int .u8 (R.kind : Int), .int .u32 (R.next : Int), .slice z'.A z'.nF z'.cA, .slice z'.D z'.nD z'.cD]) (by simp [peP]) (by simp [peP]) rfl (by rw [hsz0]; decide)), hw⟩
                        · intro L a w1 hI hi hd
                          obtain ⟨hp, hw⟩ := hI
                          simp [Region.binds] at hd
                          have e0 := hp.pu (0, 211, (.agg #[.int .u8 (R.kind : Int), .int .u32 (R.next : Int), .slice y.A y.nF y.cA, .slice y.D y.nD y.cD])) (by simp [peP]) (by simp [hd])
                          simp only at e0
                          have f0 : a.tmps[211]?.getD undef = (.agg #[.int .u8 (R.kind : Int), .int .u32 (R.next : Int), .slice y.A y.nF y.cA, .slice y.D y.nD y.cD]) := by rw [← Array.getD_eq_getD_getElem?]; exact e0
                          have t5 := hp.at_ 5 _ rfl z5
                          have t5' := t5
                          rw [Array.getD_eq_getD_getElem?] at t5'
                          have hi : L 2 = false := hi
                          have hG := hw.z5 hi
                          obtain ⟨v0, v1, v2, v3⟩ := hG.c4
                          have k0 := hG.frozen 0
                          have k1 := hG.frozen 1
                          have k2 := hG.frozen 2
                          have k3 := hG.frozen 3
                          exact rstep_skip rfl ((((w1.setCell ⟨g5, 0, none⟩ (.int .u8 (R.kind : Int))).setCell ⟨g5, 1, none⟩ (.int .u32 (R.next : Int))).setCell ⟨g5, 2, none⟩ (.slice y.A y.nF y.cA)).setCell ⟨g5, 3, none⟩ (.slice y.D y.nD y.cD)) (by go_simp) ⟨(hp.skip 2 undef (by simp [peP])), hw.st5 hi⟩
                        · intro L a w1 hI hi hd
                          obtain ⟨hp, hw⟩ := hI
                          simp [Region.binds] at hd
                          have e1 := hp.pu (1, 212, (.agg #[.int .u8 (R.kind : Int), .int .u32 (R.next : Int), .slice z'.A z'.nF z'.cA, .slice z'.D z'.nD z'.cD])) (by simp [peP]) (by simp [hd])
                          simp only at e1
                          have f1 : a.tmps[212]?.getD undef = (.agg #[.int .u8 (R.kind : Int), .int .u32 (R.next : Int), .slice z'.A z'.nF z'.cA, .slice z'.D z'.nD z'.cD]) := by rw [← Array.getD_eq_getD_getElem?]; exact e1
                          have t6 := hp.at_ 6 _ rfl z6
                          have t6' := t6
                          rw [Array.getD_eq_getD_getElem?] at t6'
                          have hi : L 3 = false := hi
                          have hG := hw.z6 hi
                          obtain ⟨v0, v1, v2, v3⟩ := hG.c4
                          have k0 := hG.frozen 0
                          have k1 := hG.frozen 1
                          have k2 := hG.frozen 2
                          have k3 := hG.frozen 3
                          exact rstep_skip rfl ((((w1.setCell ⟨g6, 0, none⟩ (.int .u8 (R.kind : Int))).setCell ⟨g6, 1, none⟩ (.int .u32 (R.next : Int))).setCell ⟨g6, 2, none⟩ (.slice z'.A z'.nF z'.cA)).setCell ⟨g6, 3, none⟩ (.slice z'.D z'.nD z'.cD)) (by go_simp) ⟨(hp.skip 3 undef (by simp [peP])), hw.st6 hi⟩
                    · have hne : (e1 == 0) = false := beq_eq_false_iff_ne.2 he
                      go_wp2
                      go_roundw
                      case rel => (repeat apply Exists.intro (α := Value)); first | exact ⟨k + 1, t, x, z, by go_num, by omega, hPT⟩ | exact ⟨k + 1, t, x, z, ⟨by go_num, by omega, hPT⟩, rfl⟩
                      case measure => simp [RowKit.intOf]; omega
          · obtain rfl : k = on := by omega
            have hb := hP.bel
            clear hP
            go_wp2_with fail
            refine (known08_any wI).mono ?_
            rintro e v ⟨rfl, hv⟩
            go_wp2
            go_ret
            exact ⟨rfl, below_step hb hv (Nat.le_refl _)⟩
      · as_aux_lemma =>
          refine ⟨?_, ?_, ?_, ?_, ?_, ?_, ?_, ?_, trivial⟩
          · intro L a w1 hI hi hd
            obtain ⟨y1, y2, g5, g6, hp, hw⟩ := hI
            have t2 := hp.at_ 2 _ rfl z2
            have t2' := t2
            rw [Array.getD_eq_getD_getElem?] at t2'
            obtain ⟨x0, x1, x2, x3⟩ := (hx1.below hw.bel hx1.lt).c4
            exact rstep_valW (wanted_none rfl _) (.agg #[.int .u8 (s.kind : Int), .int .u32 (s.next : Int), .slice A nF cA, .slice D nD cD]) w1 (by go_simp) ⟨y1, y2, g5, g6, (hp.put 0 30 (.agg #[.int .u8 (s.kind : Int), .int .u32 (s.next : Int), .slice A nF cA, .slice D nD cD]) (by simp [piP]) (by simp [piP]) rfl (by rw [hsz0]; decide)), hw⟩
          · intro L a w1 hI hi hd
            obtain ⟨y1, y2, g5, g6, hp, hw⟩ := hI
            simp [Region.binds] at hd
            have e0 := hp.pu (0, 30, (.agg #[.int .u8 (s.kind : Int), .int .u32 (s.next : Int), .slice A nF cA, .slice D nD cD])) (by simp [piP]) (by simp [hd])
            simp only at e0
            have f0 : a.tmps[30]?.getD undef = (.agg #[.int .u8 (s.kind : Int), .int .u32 (s.next : Int), .slice A nF cA, .slice D nD cD]) := by rw [← Array.getD_eq_getD_getElem?]; exact e0
            have hi : L 1 = false := hi
            refine rstep_callW (wanted_none rfl _) 17 #[.agg #[.int .u8 (s.kind : Int), .int .u32 (s.next : Int), .slice A nF cA, .slice D nD cD]] (by go_simp) ?_
            refine (copyX (x := ⟨A, nF, cA, D, nD, cD⟩) (hs1.below hw.bel) hbd).mono ?_
            rintro e w2 ⟨y, rfl, hxy, hb⟩
            exact ⟨y, y2, g5, g6, PIF.put (PIF.swap (p2 := (piP s A nF cA D nD cD y y2 g5 g6)) hp (by intro q hq hL; simp only [piP, List.mem_cons, List.not_mem_nil, or_false] at hq; rcases hq with rfl | rfl | rfl | rfl | rfl | rfl <;> first | (simp [piP]; done) | (exfalso; simp_all))) 1 31 (.agg #[.int .u8 (s.kind : Int), .int .u32 (s.next : Int), .slice y.A y.nF y.cA, .slice y.D y.nD y.cD]) (by simp [piP]) (by simp [piP]) rfl (by rw [hsz0]; decide), hw.call1 hi y hb hxy⟩
          · intro L a w1 hI hi hd
            obtain ⟨y1, y2, g5, g6, hp, hw⟩ := hI
            have t2 := hp.at_ 2 _ rfl z2
            have t2' := t2
            rw [Array.getD_eq_getD_getElem?] at t2'
            obtain ⟨x0, x1, x2, x3⟩ := (hx1.below hw.bel hx1.lt).c4
            exact rstep_valW (wanted_none rfl _) (.agg #[.int .u8 (s.kind : Int), .int .u32 (s.next : Int), .slice A nF cA, .slice D nD cD]) w1 (by go_simp) ⟨y1, y2, g5, g6, (hp.put 2 32 (.agg #[.int .u8 (s.kind : Int), .int .u32 (s.next : Int), .slice A nF cA, .slice D nD cD]) (by simp [piP]) (by simp [piP]) rfl (by rw [hsz0]; decide)), hw⟩
          · intro L a w1 hI hi hd
            obtain ⟨y1, y2, g5, g6, hp, hw⟩ := hI
            simp [Region.binds] at hd
            have e2 := hp.pu (2, 32, (.agg #[.int .u8 (s.kind : Int), .int .u32 (s.next : Int), .slice A nF cA, .slice D nD cD])) (by simp [piP]) (by simp [hd])
            simp only at e2
            have f2 : a.tmps[32]?.getD undef = (.agg #[.int .u8 (s.kind : Int), .int .u32 (s.next : Int), .slice A nF cA, .slice D nD cD]) := by rw [← Array.getD_eq_getD_getElem?]; exact e2
            have hi : L 3 = false := hi
            refine rstep_callW (wanted_none rfl _) 17 #[.agg #[.int .u8 (s.kind : Int), .int .u32 (s.next : Int), .slice A nF cA, .slice D nD cD]] (by go_simp) ?_
            refine (copyX (x := ⟨A, nF, cA, D, nD, cD⟩) (hs1.below hw.bel) hbd).mono ?_
            rintro e w2 ⟨y, rfl, hxy, hb⟩
            exact ⟨y1, y, g5, g6, PIF.put (PIF.swap (p2 := (piP s A nF cA D nD cD y1 y g5 g6)) hp (by intro q hq hL; simp only [piP, List.mem_cons, List.not_mem_nil, or_false] at hq; rcases hq with rfl | rfl | rfl | rfl | rfl | rfl <;> first | (simp [piP]; done) | (exfalso; simp_all))) 3 33 (.agg #[.int .u8 (s.kind : Int), .int .u32 (s.next : Int), .slice y.A y.nF y.cA, .slice y.D y.nD y.cD]) (by simp [piP]) (by simp [piP]) rfl (by rw [hsz0]; decide), hw.call2 hi y hb hxy⟩
          · intro L a w1 hI hi hd
            obtain ⟨y1, y2, g5, g6, hp, hw⟩ := hI
            have hi : L 4 = false := hi
            refine rstep_valW (wanted_none rfl _) (.pointer (some ⟨w1.heap.size, 0, none⟩)) (w1.alloc (.cells #[.int .u8 0, .int .u32 0, .slice none 0 0, .slice none 0 0] 26)) (by go_simp) ⟨y1, y2, w1.heap.size, g6, PIF.put (PIF.swap (p2 := (piP s A nF cA D nD cD y1 y2 w1.heap.size g6)) hp (by intro q hq hL; simp only [piP, List.mem_cons, List.not_mem_nil, or_false] at hq; rcases hq with rfl | rfl | rfl | rfl | rfl | rfl <;> first | (simp [piP]; done) | (exfalso; simp_all))) 4 5 (.pointer (some ⟨w1.heap.size, 0, none⟩)) (by simp [piP]) (by simp [piP]) rfl (by rw [hsz0]; decide), hw.alloc5 hi⟩
          · intro L a w1 hI hi hd
            obtain ⟨y1, y2, g5, g6, hp, hw⟩ := hI
            have hi : L 5 = false := hi
            refine rstep_valW (wanted_none rfl _) (.pointer (some ⟨w1.heap.size, 0, none⟩)) (w1.alloc (.cells #[.int .u8 0, .int .u32 0, .slice none 0 0, .slice none 0 0] 26)) (by go_simp) ⟨y1, y2, g5, w1.heap.size, PIF.put (PIF.swap (p2 := (piP s A nF cA D nD cD y1 y2 g5 w1.heap.size)) hp (by intro q hq hL; simp only [piP, List.mem_cons, List.not_mem_nil, or_false] at hq; rcases hq with rfl | rfl | rfl | rfl | rfl | rfl <;> first | (simp [piP]; done) | (exfalso; simp_all))) 5 6 (.pointer (some ⟨w1.heap.size, 0, none⟩)) (by simp [piP]) (by simp [piP]) rfl (by rw [hsz0]; decide), hw.alloc6 hi⟩
          · intro L a w1 hI hi hd
            obtain ⟨y1, y2, g5, g6, hp, hw⟩ := hI
            simp [Region.binds] at hd
            have e1 := hp.pu (1, 31, (.agg #[.int .u8 (s.kind : Int), .int .u32 (s.next : Int), .slice y1.A y1.nF y1.cA, .slice y1.D y1.nD y1.cD])) (by simp [piP]) (by simp [hd])
            simp only at e1
            have f1 : a.tmps[31]?.getD undef = (.agg #[.int .u8 (s.kind : Int), .int .u32 (s.next : Int), .slice y1.A y1.nF y1.cA, .slice y1.D y1.nD y1.cD]) := by rw [← Array.getD_eq_getD_getElem?]; exact e1
            have e4 := hp.pu (4, 5, (.pointer (some ⟨g5, 0, none⟩))) (by simp [piP]) (by simp [hd])
            simp only at e4
            have f4 : a.tmps[5]?.getD undef = (.pointer (some ⟨g5, 0, none⟩)) := by rw [← Array.getD_eq_getD_getElem?]; exact e4
            have hi : L 6 = false := hi
            have qc : L 1 = true := by simp [hd]
            have qa : L 4 = true := by simp [hd]
            have hG := hw.z5 qa hi
            obtain ⟨v0, v1, v2, v3⟩ := hG.c4
            have k0 := hG.frozen 0
            have k1 := hG.frozen 1
            have k2 := hG.frozen 2
            have k3 := hG.frozen 3
            exact rstep_skip rfl ((((w1.setCell ⟨g5, 0, none⟩ (.int .u8 (s.kind : Int))).setCell ⟨g5, 1, none⟩ (.int .u32 (s.next : Int))).setCell ⟨g5, 2, none⟩ (.slice y1.A y1.nF y1.cA)).setCell ⟨g5, 3, none⟩ (.slice y1.D y1.nD y1.cD)) (by go_simp) ⟨y1, y2, g5, g6, (hp.skip 6 undef (by simp [piP])), hw.store5 hi qc qa⟩
          · intro L a w1 hI hi hd
            obtain ⟨y1, y2, g5, g6, hp, hw⟩ := hI
            simp [Region.binds] at hd
            have e3 := hp.pu (3, 33, (.agg #[.int .u8 (s.kind : Int), .int .u32 (s.next : Int), .slice y2.A y2.nF y2.cA, .slice y2.D y2.nD y2.cD])) (by simp [piP]) (by simp [hd])
            simp only at e3
            have f3 : a.tmps[33]?.getD undef = (.agg #[.int .u8 (s.kind : Int), .int .u32 (s.next : Int), .slice y2.A y2.nF y2.cA, .slice y2.D y2.nD y2.cD]) := by rw [← Array.getD_eq_getD_getElem?]; exact e3
            have e5 := hp.pu (5, 6, (.pointer (some ⟨g6, 0, none⟩))) (by simp [piP]) (by simp [hd])
            simp only at e5
            have f5 : a.tmps[6]?.getD undef = (.pointer (some ⟨g6, 0, none⟩)) := by rw [← Array.getD_eq_getD_getElem?]; exact e5
            have hi : L 7 = false := hi
            have qc : L 3 = true := by simp [hd]
            have qa : L 5 = true := by simp [hd]
            have hG := hw.z6 qa hi
            obtain ⟨v0, v1, v2, v3⟩ := hG.c4
            have k0 := hG.frozen 0
            have k1 := hG.frozen 1
            have k2 := hG.frozen 2
            have k3 := hG.frozen 3
            exact rstep_skip rfl ((((w1.setCell ⟨g6, 0, none⟩ (.int .u8 (s.kind : Int))).setCell ⟨g6, 1, none⟩ (.int .u32 (s.next : Int))).setCell ⟨g6, 2, none⟩ (.slice y2.A y2.nF y2.cA)).setCell ⟨g6, 3, none⟩ (.slice y2.D y2.nD y2.cD)) (by go_simp) ⟨y1, y2, g5, g6, (hp.skip 7 undef (by simp [piP])), hw.store6 hi qc qa⟩
end Go.Proofs.Ytofbfehpadjbbaa
