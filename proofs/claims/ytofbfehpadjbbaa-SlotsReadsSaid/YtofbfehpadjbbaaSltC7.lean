/-
  The document's Delete.
  Conditions: the lengths fit.
-/
import Derived.Test.YtofbfehpadjbbaaSltC4
import Derived.Deep.Cut
namespace Go.Proofs.Ytofbfehpadjbbaa
open Go.RowKit Go.Sort Go.Lib
set_option linter.unusedVariables false
set_option linter.unusedSimpArgs false
/-- One less. -/
theorem Ow.cut1 {w0 w : World} {s : Slt} {gr G gA q c1 gD c2 : Nat} {full : List Bool} {ps : List Sl} (h : Ow w0 s gr G (some ⟨gA, 0, none⟩) (q + 1) c1 (some ⟨gD, 0, none⟩) (q + 1) c2 full ps w) :
    Ow w0 s gr G (some ⟨gA, 0, none⟩) q c1 (some ⟨gD, 0, none⟩) q c2 (full.take q) (ps.take q) ((w.setCell ⟨G, 2, none⟩ (.slice (some ⟨gA, 0, none⟩) q c1)).setCell ⟨G, 3, none⟩ (.slice (some ⟨gD, 0, none⟩) q c2)) := by
  have h1 := h.gr'
  have h2 := h.gG
  exact ⟨(h.bel.grown (grownBy_setCell _ _ _ _) h.bel.size (fun q hq => by injection hq with hq; omega)).grown (grownBy_setCell _ _ _ _) (by have := h.bel.size; simp; omega) (fun q hq => by injection hq with hq; omega),
    (h.hr.far (by show gr ≠ G; omega) _).far (by show gr ≠ G; omega) _, (h.hg.set_ 2 _).set_ 3 _, ((h.hp.cut (Nat.le_succ q) (Nat.le_succ q)).setG 2 _).setG 3 _, h.gr', h.gG⟩
def sizeAt (G : Nat) (w : World) : Nat := match w.cell? ⟨G, 2, none⟩ with | some (.slice _ n _) => n | _ => 0
set_option maxRecDepth 100000 in
set_option maxHeartbeats 4000000 in
theorem refdelete8_any (s : Slt) (p : Int) (A : Option Addr) (nF cA : Nat) (D : Option Addr) (nD cD : Nat) (w : World) (hs : SltAt w A nF cA D nD cD s) (hsum : SltM.sum s.data ≤ 500000) (hmF : nF ≤ 1000000) (hmD : nD ≤ 1000000) :
    Calls Try.prog 20 #[.agg #[.int .u8 (s.kind : Int), .int .u32 (s.next : Int), .slice A nF cA, .slice D nD cD], .int .i64 p] w (DelPost s p w) := by
  go_enter Try.func20, Try.ntmps20
  go_wp2_with fail
  have hbx := (Blk.new w 26 #[.int .u8 (s.kind : Int), .int .u32 (s.next : Int), .slice A nF cA, .slice D nD cD]).alloc (.cells #[.int .u8 0, .int .u32 0, .slice none 0 0, .slice none 0 0] 26)
  have hb2 : Blk ((w.alloc (.cells #[.int .u8 (s.kind : Int), .int .u32 (s.next : Int), .slice A nF cA, .slice D nD cD] 26)).alloc (.cells #[.int .u8 0, .int .u32 0, .slice none 0 0, .slice none 0 0] 26)) (w.heap.size + 1) 26 #[.int .u8 0, .int .u32 0, .slice none 0 0, .slice none 0 0] := by
    have := Blk.new (w.alloc (.cells #[.int .u8 (s.kind : Int), .int .u32 (s.next : Int), .slice A nF cA, .slice D nD cD] 26)) 26 #[.int .u8 0, .int .u32 0, .slice none 0 0, .slice none 0 0]
    simpa using this
  have hVb : Below w.heap.size w ((w.alloc (.cells #[.int .u8 (s.kind : Int), .int .u32 (s.next : Int), .slice A nF cA, .slice D nD cD] 26)).alloc (.cells #[.int .u8 0, .int .u32 0, .slice none 0 0, .slice none 0 0] 26)) := ((Below.refl w.heap.size w).alloc (Nat.le_refl _) _).alloc (by simp) _
  have hVs : ((w.alloc (.cells #[.int .u8 (s.kind : Int), .int .u32 (s.next : Int), .slice A nF cA, .slice D nD cD] 26)).alloc (.cells #[.int .u8 0, .int .u32 0, .slice none 0 0, .slice none 0 0] 26)).heap.size = w.heap.size + 2 := by simp
  generalize (w.alloc (.cells #[.int .u8 (s.kind : Int), .int .u32 (s.next : Int), .slice A nF cA, .slice D nD cD] 26)).alloc (.cells #[.int .u8 0, .int .u32 0, .slice none 0 0, .slice none 0 0] 26) = V at *
  have hsV := hs.below hVb
  have hlF := hs.lf
  have hlD := hs.ld
  have hcF := hs.cf
  have hcD := hs.cd
  have hxs : ∀ x ∈ s.data, x.length ≤ 1000000 := fun x hx => by
    obtain ⟨j, hj, e⟩ := List.getElem_of_mem hx
    have := SltM.sum_get (l := s.data) (k := j) (x := x) (by rw [List.getElem?_eq_getElem hj, e])
    omega
  clear hs
  have hx0 := hbx
  have hr0 := hb2
  have hs0 := hsV
  have hB0 := hVb
  have hz0 : w.heap.size + 2 ≤ V.heap.size := by omega
  clear hbx hb2 hVb hsV
  refine (refmay8_any s A nF cA D nD cD V hs0 (by omega) (by omega) (by omega)).mono ?_
  rintro e w1 ⟨r, rfl, hr, b1⟩
  have hx1 := hx0.below b1 hx0.lt
  have hr1 := hr0.below b1 hr0.lt
  have hs1 := hs0.below b1
  have hB1 := below_step hB0 b1 (Nat.le_refl _)
  have hz1 : w.heap.size + 2 ≤ w1.heap.size := Nat.le_trans hz0 b1.size
  clear b1 hx0 hr0 hs0 hB0
  obtain ⟨d0, d1, d2, d3⟩ := hx1.c4
  obtain ⟨x0, x1, x2, x3⟩ := hr1.c4
  have k0 := hr1.frozen 0
  have k1 := hr1.frozen 1
  have k2 := hr1.frozen 2
  have k3 := hr1.frozen 3
  cases r with
  | false =>
    have hN : ¬ SltM.May s := fun h => by have := hr.out.2 h; cases this
    go_wp2
    refine ret_cell rfl (w.heap.size + 1) #[.int .u8 0, .int .u32 0, .slice none 0 0, .slice none 0 0] _ rfl (hr1.set4 _ _ _ _) Try.underlying26 rfl (by kernel_rfl) rfl ?_
    have hbz := hB1.grown (grown4 w1 (w.heap.size + 1) (.int .u8 0) (.int .u32 0) (.slice none 0 0) (.slice none 0 0)) hB1.size (fun q hq => by injection hq with hq; omega)
    exact .inl ⟨2, rfl, Lib.hid (.inl ⟨rfl, hN⟩), hbz⟩
  | true =>
    have hM := hr.out.1 rfl
    clear hr
    go_wp2_with fail
    clear d0 d1 d2 d3 x0 x1 x2 x3 k0 k1 k2 k3
    refine (refhas_any s p A nF cA D nD cD w1 hs1 hmF).mono ?_
    rintro e w2 ⟨r2, rfl, hr2', b2⟩
    have hx2 := hx1.below b2 hx1.lt
    have hr2 := hr1.below b2 hr1.lt
    have hs2 := hs1.below b2
    have hB2 := below_step hB1 b2 (Nat.le_refl _)
    have hz2 : w.heap.size + 2 ≤ w2.heap.size := Nat.le_trans hz1 b2.size
    clear b2 hx1 hr1 hs1 hB1
    obtain ⟨d0, d1, d2, d3⟩ := hx2.c4
    obtain ⟨x0, x1, x2, x3⟩ := hr2.c4
    have k0 := hr2.frozen 0
    have k1 := hr2.frozen 1
    have k2 := hr2.frozen 2
    have k3 := hr2.frozen 3
    cases r2 with
    | false =>
      have hN : ¬ Has s p := fun h => by have := hr2'.out.2 h; cases this
      go_wp2
      refine ret_cell rfl (w.heap.size + 1) #[.int .u8 0, .int .u32 0, .slice none 0 0, .slice none 0 0] _ rfl (hr2.set4 _ _ _ _) Try.underlying26 rfl (by kernel_rfl) rfl ?_
      have hbz := hB2.grown (grown4 w2 (w.heap.size + 1) (.int .u8 0) (.int .u32 0) (.slice none 0 0) (.slice none 0 0)) hB2.size (fun q hq => by injection hq with hq; omega)
      exact .inl ⟨7, rfl, Lib.hid (.inr ⟨rfl, hM, hN⟩), hbz⟩
    | true =>
      obtain ⟨k, rfl, hk⟩ := hr2'.out.1 rfl
      clear hr2'
      have hkF : k < nF := by have := (List.getElem?_eq_some_iff.1 hk).1; omega
      have hFD := hM.len
      have h247 := hM.most
      go_wp2_with fail
      clear d0 d1 d2 d3 x0 x1 x2 x3 k0 k1 k2 k3
      refine (refcopy8_any s A nF cA D nD cD w2 hs2 hmF hmD hxs).mono ?_
      rintro e w3 ⟨A1, c1, D1, c2, rfl, hN, b3⟩
      obtain ⟨ps, hps, hO⟩ := Ow.start w2 hB2 hr2 hN b3 hz2
      obtain rfl : nD = nF := by omega
      clear hN b3 hB2 hr2 hx2 hs2
      go_upto_region 6 with fail
      generalize w3.alloc (.cells #[.int .u8 (s.kind : Int), .int .u32 (s.next : Int), .slice A1 nD c1, .slice D1 nD c2] 26) = V3 at *
      generalize w3.heap.size = G at *
      generalize w.heap.size + 1 = gr at *
      obtain ⟨gA, rfl, hgA, hgA2⟩ := hO.hp.fu.some_ (by omega)
      obtain ⟨gD, rfl, hgD, hgD2⟩ := hO.hp.li.some_ (by omega)
      have hcc1 := hO.hp.fu.le
      have hcc2 := hO.hp.li.le
      have hc63 := OwnLs.cap hO.hp.li
      unfold maxLen at hc63 hcc1
      have HM := Lib.hid hM
      have HK := Lib.hid hk
      have HPS := Lib.hid hps
      clear hM hk hps hxs
      obtain ⟨y0, y1, y2, y3⟩ := hO.hg.c4
      have hAG : G ≠ gA := fun q => hO.hp.gA _ rfl q.symm
      have hDG : G ≠ gD := fun q => hO.hp.gD _ rfl q.symm
      obtain ⟨vA, t0⟩ := hO.hp.fu.cell (k := k) (by omega)
      have t1 := hO.hp.fu.frozen k
      obtain ⟨vD, t2⟩ := (hO.setF k false).hp.li.cell (k := k) (by omega)
      have t3 := (hO.setF k false).hp.li.frozen k
      obtain ⟨u0, u1, u2, u3⟩ := (hO.setF k false).hg.c4
      have HO := Lib.hid ((hO.setF k false).setD k ⟨none, 0, 0, []⟩ ⟨rfl, Row.nil _ _, .inl rfl⟩)
      clear hO
      go_upto_region 8 with fail
      clear y0 y1 y2 y3 t0 t1 t2 t3 u0 u1 u2 u3
      have hO := HO.out
      clear HO
      simp only [Sl.val] at hO
      generalize (V3.setCell ⟨gA, k, none⟩ (.bool false)).setCell ⟨gD, k, none⟩ (.slice none 0 0) = V4 at *
      have hPD : (ps.set k ⟨none, 0, 0, []⟩).map Sl.l = s.data.set k [] := by rw [List.map_set, HPS.out]
      obtain ⟨fl, hfl⟩ : ∃ fl, s.full.set k false = fl := ⟨_, rfl⟩
      obtain ⟨pl, hpl⟩ : ∃ pl, ps.set k ⟨none, 0, 0, []⟩ = pl := ⟨_, rfl⟩
      rw [hfl, hpl] at hO
      rw [hpl] at hPD
      have hll : fl.length = nD := by rw [← hfl, List.length_set]; exact hlF
      have HD : Hid (∀ q, SltM.trim fl nD = q → fl.take q = (SltM.del s k).full ∧ (pl.take q).map Sl.l = (SltM.del s k).data) := Lib.hid (by
        intro q hq
        unfold SltM.del
        rw [hfl, hlF, hq, List.map_take, hPD]
        exact ⟨rfl, rfl⟩)
      clear hPD hfl hpl HPS
      go_loopw [29] (fun _ wr => ∃ q : Nat, q ≤ nD ∧ SltM.trim fl nD = SltM.trim fl q ∧ Ow w s gr G (some ⟨gA, 0, none⟩) q c1 (some ⟨gD, 0, none⟩) q c2 (fl.take q) (pl.take q) wr) (fun _ wr => sizeAt G wr)
      case atStart => exact ⟨nD, Nat.le_refl _, rfl, by rw [← hll, List.take_length, List.take_of_length_le (by have := hO.hp.li.len; omega)]; rw [hll]; exact hO⟩
      case round =>
        obtain ⟨q, hq, htr, hO⟩ := hrel
        obtain ⟨y0, y1, y2, y3⟩ := hO.hg.c4
        have j2 := hO.hg.frozen 2
        have j3 := hO.hg.frozen 3
        cases q with
        | zero =>
          obtain ⟨v0, v1, v2, v3⟩ := hO.hr.c4
          have k0 := hO.hr.frozen 0
          have k1 := hO.hr.frozen 1
          have k2 := hO.hr.frozen 2
          have k3 := hO.hr.frozen 3
          obtain ⟨e1, e2⟩ := HD.out 0 htr
          go_wp2
          refine ret_cell rfl gr #[.int .u8 (s.kind : Int), .int .u32 (s.next : Int), .slice (some ⟨gA, 0, none⟩) 0 c1, .slice (some ⟨gD, 0, none⟩) 0 c2] _ rfl (hO.hr.set4 _ _ _ _) Try.underlying26 rfl (by kernel_rfl) rfl ?_
          have hf := hO.fin (SltM.del s k) e1 e2 (.int .u8 (s.kind : Int)) (.int .u32 (s.next : Int)) (.slice (some ⟨gA, 0, none⟩) 0 c1) (.slice (some ⟨gD, 0, none⟩) 0 c2)
          exact .inr ⟨k, Lib.hid rfl, HK, HM, some ⟨gA, 0, none⟩, 0, c1, some ⟨gD, 0, none⟩, 0, c2, rfl, hf.1, hf.2⟩
        | succ q =>
          obtain ⟨b, hb⟩ : ∃ b, fl[q]? = some b := ⟨_, List.getElem?_eq_getElem (by omega)⟩
          obtain ⟨g', o', e', cb⟩ := row_any hO.hp.fu.row (k := q) (u := .bool b) (by rw [List.getElem?_map, List.getElem?_take_of_lt (Nat.lt_succ_self q), hb]; rfl)
          cases e'
          rw [Nat.zero_add] at cb
          cases b with
          | false =>
            have HT : Hid (SltM.trim fl nD = SltM.trim fl q) := Lib.hid (by
              rw [htr]
              show (if _ then _ else _) = _
              rw [if_neg (by rw [hb]; simp)])
            have HC := Lib.hid hO.cut1
            have HO := Lib.hid hO
            have hGG : ∀ w' : World, sizeAt G w' = sizeAt G w' := fun _ => rfl
            clear hO hb htr
            go_wp2
            go_roundw
            case rel =>
              refine ⟨q, by omega, HT.out, ?_⟩
              have := HC.out
              rwa [List.take_take, List.take_take, Nat.min_eq_left (Nat.le_succ q)] at this
            case measure =>
              have e1 : sizeAt G wr = q + 1 := by unfold sizeAt; rw [y2]
              have e2 := (HC.out.hg.c4).2.2.1
              unfold sizeAt
              rw [y2, e2]
              exact Nat.lt_succ_self q
          | true =>
            have HQ : Hid (SltM.trim fl nD = q + 1) := Lib.hid (by
              rw [htr]
              show (if _ then _ else _) = _
              rw [if_pos hb])
            clear hb htr
            obtain ⟨v0, v1, v2, v3⟩ := hO.hr.c4
            have k0 := hO.hr.frozen 0
            have k1 := hO.hr.frozen 1
            have k2 := hO.hr.frozen 2
            have k3 := hO.hr.frozen 3
            obtain ⟨e1, e2⟩ := HD.out (q + 1) HQ.out
            go_wp2
            refine ret_cell rfl gr #[.int .u8 (s.kind : Int), .int .u32 (s.next : Int), .slice (some ⟨gA, 0, none⟩) (q + 1) c1, .slice (some ⟨gD, 0, none⟩) (q + 1) c2] _ rfl (hO.hr.set4 _ _ _ _) Try.underlying26 rfl (by kernel_rfl) rfl ?_
            have hf := hO.fin (SltM.del s k) e1 e2 (.int .u8 (s.kind : Int)) (.int .u32 (s.next : Int)) (.slice (some ⟨gA, 0, none⟩) (q + 1) c1) (.slice (some ⟨gD, 0, none⟩) (q + 1) c2)
            exact .inr ⟨k, Lib.hid rfl, HK, HM, some ⟨gA, 0, none⟩, q + 1, c1, some ⟨gD, 0, none⟩, q + 1, c2, rfl, hf.1, hf.2⟩
end Go.Proofs.Ytofbfehpadjbbaa
