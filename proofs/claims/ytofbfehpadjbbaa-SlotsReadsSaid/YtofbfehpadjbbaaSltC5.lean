/-
  The document's Put.
  Conditions: the lengths fit.
-/
import Derived.Test.YtofbfehpadjbbaaSltC4
import Derived.Deep.Cut
namespace Go.Proofs.Ytofbfehpadjbbaa
open Go.RowKit Go.Sort Go.Lib
set_option linter.unusedVariables false
set_option linter.unusedSimpArgs false
theorem hd7 {p q : Bool} (h : p = true → q = true) (e : q = false) : p = false := by cases p with | false => rfl | true => rw [h rfl] at e; cases e
def putP (gD k : Nat) (B : Option Addr) (nb cb G n2 c2 g9 : Nat) (B1 : Option Addr) (c3 : Nat) : List (Nat × Nat × Value) :=
  [(0, 22, (.pointer (some ⟨G, 3, none⟩))), (1, 23, (.slice (some ⟨gD, 0, none⟩) n2 c2)), (2, 24, (.int .i64 (k : Int))), (3, 25, (.slice (some ⟨g9, 0, none⟩) 0 0)), (4, 26, (.slice B nb cb)), (5, 27, (.slice B1 nb c3)), (6, 28, (.pointer (some ⟨gD, k, none⟩)))]
set_option maxRecDepth 100000 in
set_option maxHeartbeats 4000000 in
theorem refput8_any (s : Slt) (p : Int) (A : Option Addr) (nF cA : Nat) (D : Option Addr) (nD cD : Nat) (B : Option Addr) (nb cb : Nat) (b : List UInt8) (w : World) (hs : SltAt w A nF cA D nD cD s) (hsum : SltM.sum s.data ≤ 500000) (hmF : nF ≤ 1000000) (hmD : nD ≤ 1000000)
    (hbr : Row w B (bs b)) (hbn : b.length = nb) (hbl : nb ≤ 400000) :
    Calls Try.prog 19 #[.agg #[.int .u8 (s.kind : Int), .int .u32 (s.next : Int), .slice A nF cA, .slice D nD cD], .int .i64 p, .slice B nb cb] w (PutPost s p b w) := by
  go_enter Try.func19, Try.ntmps19
  go_wp2_with fail
  have hbx := (Blk.new w 26 #[.int .u8 (s.kind : Int), .int .u32 (s.next : Int), .slice A nF cA, .slice D nD cD]).alloc (.cells #[.int .u8 0, .int .u32 0, .slice none 0 0, .slice none 0 0] 26)
  have hb2 : Blk ((w.alloc (.cells #[.int .u8 (s.kind : Int), .int .u32 (s.next : Int), .slice A nF cA, .slice D nD cD] 26)).alloc (.cells #[.int .u8 0, .int .u32 0, .slice none 0 0, .slice none 0 0] 26)) (w.heap.size + 1) 26 #[.int .u8 0, .int .u32 0, .slice none 0 0, .slice none 0 0] := by
    have := Blk.new (w.alloc (.cells #[.int .u8 (s.kind : Int), .int .u32 (s.next : Int), .slice A nF cA, .slice D nD cD] 26)) 26 #[.int .u8 0, .int .u32 0, .slice none 0 0, .slice none 0 0]
    simpa using this
  have hVb : Below w.heap.size w ((w.alloc (.cells #[.int .u8 (s.kind : Int), .int .u32 (s.next : Int), .slice A nF cA, .slice D nD cD] 26)).alloc (.cells #[.int .u8 0, .int .u32 0, .slice none 0 0, .slice none 0 0] 26)) := ((Below.refl w.heap.size w).alloc (Nat.le_refl _) _).alloc (by simp) _
  have hVs : ((w.alloc (.cells #[.int .u8 (s.kind : Int), .int .u32 (s.next : Int), .slice A nF cA, .slice D nD cD] 26)).alloc (.cells #[.int .u8 0, .int .u32 0, .slice none 0 0, .slice none 0 0] 26)).heap.size = w.heap.size + 2 := by simp
  generalize (w.alloc (.cells #[.int .u8 (s.kind : Int), .int .u32 (s.next : Int), .slice A nF cA, .slice D nD cD] 26)).alloc (.cells #[.int .u8 0, .int .u32 0, .slice none 0 0, .slice none 0 0] 26) = V at *
  have hsV := hs.below hVb
  have hlF := hs.lf
  have hlD := hs.ld
  have hcF := hs.cf
  have hcD := hs.cd
  have hxs : ∀ x ∈ s.data, x.length ≤ 1000000 := fun x hx => by
    obtain ⟨j, hj, e⟩ := List.getElem_of_mem hx
    have := SltM.sum_get (l := s.data) (k := j) (x := x) (by rw [List.getElem?_eq_getElem hj, e])
    omega
  clear hs
  have hx0 := hbx
  have hr0 := hb2
  have hs0 := hsV
  have hB0 := hVb
  have hz0 : w.heap.size + 2 ≤ V.heap.size := by omega
  clear hbx hb2 hVb hsV
  refine (refmay8_any s A nF cA D nD cD V hs0 (by omega) (by omega) (by omega)).mono ?_
  rintro e w1 ⟨r, rfl, hr, b1⟩
  have hx1 := hx0.below b1 hx0.lt
  have hr1 := hr0.below b1 hr0.lt
  have hs1 := hs0.below b1
  have hB1 := below_step hB0 b1 (Nat.le_refl _)
  have hz1 : w.heap.size + 2 ≤ w1.heap.size := Nat.le_trans hz0 b1.size
  clear b1 hx0 hr0 hs0 hB0
  obtain ⟨d0, d1, d2, d3⟩ := hx1.c4
  obtain ⟨x0, x1, x2, x3⟩ := hr1.c4
  have k0 := hr1.frozen 0
  have k1 := hr1.frozen 1
  have k2 := hr1.frozen 2
  have k3 := hr1.frozen 3
  cases r with
  | false =>
    have hN : ¬ SltM.May s := fun h => by have := hr.out.2 h; cases this
    go_wp2
    refine ret_cell rfl (w.heap.size + 1) #[.int .u8 0, .int .u32 0, .slice none 0 0, .slice none 0 0] _ rfl (hr1.set4 _ _ _ _) Try.underlying26 rfl (by kernel_rfl) rfl ?_
    have hbz := hB1.grown (grown4 w1 (w.heap.size + 1) (.int .u8 0) (.int .u32 0) (.slice none 0 0) (.slice none 0 0)) hB1.size (fun q hq => by injection hq with hq; omega)
    exact .inl ⟨2, rfl, Lib.hid (.inl ⟨rfl, hN⟩), hbz⟩
  | true =>
    have hM := hr.out.1 rfl
    clear hr
    go_wp2_with fail
    clear d0 d1 d2 d3 x0 x1 x2 x3 k0 k1 k2 k3
    refine (refhas_any s p A nF cA D nD cD w1 hs1 hmF).mono ?_
    rintro e w2 ⟨r2, rfl, hr2', b2⟩
    have hx2 := hx1.below b2 hx1.lt
    have hr2 := hr1.below b2 hr1.lt
    have hs2 := hs1.below b2
    have hB2 := below_step hB1 b2 (Nat.le_refl _)
    have hz2 : w.heap.size + 2 ≤ w2.heap.size := Nat.le_trans hz1 b2.size
    clear b2 hx1 hr1 hs1 hB1
    obtain ⟨d0, d1, d2, d3⟩ := hx2.c4
    obtain ⟨x0, x1, x2, x3⟩ := hr2.c4
    have k0 := hr2.frozen 0
    have k1 := hr2.frozen 1
    have k2 := hr2.frozen 2
    have k3 := hr2.frozen 3
    cases r2 with
    | false =>
      have hN : ¬ Has s p := fun h => by have := hr2'.out.2 h; cases this
      go_wp2
      refine ret_cell rfl (w.heap.size + 1) #[.int .u8 0, .int .u32 0, .slice none 0 0, .slice none 0 0] _ rfl (hr2.set4 _ _ _ _) Try.underlying26 rfl (by kernel_rfl) rfl ?_
      have hbz := hB2.grown (grown4 w2 (w.heap.size + 1) (.int .u8 0) (.int .u32 0) (.slice none 0 0) (.slice none 0 0)) hB2.size (fun q hq => by injection hq with hq; omega)
      exact .inl ⟨7, rfl, Lib.hid (.inr ⟨rfl, hM, hN⟩), hbz⟩
    | true =>
      obtain ⟨k, rfl, hk⟩ := hr2'.out.1 rfl
      clear hr2'
      have hkF : k < nF := by have := (List.getElem?_eq_some_iff.1 hk).1; omega
      have hFD := hM.len
      have h247 := hM.most
      go_wp2_with fail
      clear d0 d1 d2 d3 x0 x1 x2 x3 k0 k1 k2 k3
      refine (refcopy8_any s A nF cA D nD cD w2 hs2 hmF hmD hxs).mono ?_
      rintro e w3 ⟨A1, c1, D1, c2, rfl, hN, b3⟩
      obtain ⟨ps, hps, hO⟩ := Ow.start w2 hB2 hr2 hN b3 hz2
      have hbr3 := ((hbr.below hB2).below b3).alloc (.cells #[.int .u8 (s.kind : Int), .int .u32 (s.next : Int), .slice A1 nF c1, .slice D1 nD c2] 26)
      clear hN b3 hB2 hr2 hx2 hs2
      go_upto_region 6 with fail
      generalize w3.alloc (.cells #[.int .u8 (s.kind : Int), .int .u32 (s.next : Int), .slice A1 nF c1, .slice D1 nD c2] 26) = V3 at *
      generalize w3.heap.size = G at *
      generalize w.heap.size + 1 = gr at *
      obtain ⟨gD, rfl, hgD, hgD2⟩ := hO.hp.li.some_ (by omega)
      obtain ⟨n1, hn1⟩ : ∃ n1, nF = n1 := ⟨_, rfl⟩
      obtain ⟨n2, hn2⟩ : ∃ n2, nD = n2 := ⟨_, rfl⟩
      obtain ⟨full, hfull⟩ : ∃ l, s.full = l := ⟨_, rfl⟩
      rw [hfull, hn1, hn2] at hO
      rw [hn1, hn2]
      have hbr' := hbr3
      have hk2 : k < n2 := by omega
      have hcc := hO.hp.li.le
      have hc63 : c2 ≤ maxLen := OwnLs.cap hO.hp.li
      unfold maxLen at hc63
      refine wp_named fun a0 ha0 => ?_
      have z1 : a0.tmps.getD 1 undef = .int .i64 (k : Int) := by rw [ha0.out]; rfl
      have z2 : a0.tmps.getD 2 undef = .slice B nb cb := by rw [ha0.out]; rfl
      have z8 : a0.tmps.getD 8 undef = .pointer (some ⟨G, 0, none⟩) := by rw [ha0.out]; rfl
      have hsz0 : a0.tmps.size = 34 := by rw [ha0.out]; rfl
      refine wp_region_inv _ (by kernel_rfl) (fun L a w1 => ∃ g9 B1 c3, PIF a0 [22, 23, 24, 25, 26, 27, 28] (putP gD k B nb cb G n2 c2 g9 B1 c3) L a ∧ CbW V3 gD k b nb g9 B1 c3 (L 3) (L 5) (L 7) (fun w1 => Ow w s gr G A1 n1 c1 (some ⟨gD, 0, none⟩) n2 c2 full (ps.set k ⟨B1, nb, c3, b⟩) w1) w1 ∧ (L 7 = true → L 1 = true)) (by kernel_rfl) ?_ ?_ ?_
      · exact ⟨0, none, 0, PIF.start _ _ _, ⟨nofun, nofun, fun _ => ⟨rfl, rfl, rfl, Nat.le_refl _, fun _ _ => rfl⟩, nofun, nofun, Nat.le_refl _, nofun⟩, nofun⟩
      · rintro L a w4 ⟨g9, B1, c3, hp, hw, _⟩ hL
        have hX := hw.fin (hL 7 (by simp))
        rw [hp.eq, ha0.out]
        simp only [putAll]
        clear hp hw hL ha0 z1 z2 z8 hsz0
        obtain ⟨y0, y1, y2, y3⟩ := hX.hg.c4
        go_wp2_with fail
        clear y0 y1 y2 y3
        have hsum2 : SltM.sum (s.data.set k b) ≤ 1000000 := by
          obtain ⟨x, hx⟩ : ∃ x, s.data[k]? = some x := ⟨_, List.getElem?_eq_getElem (by omega)⟩
          have := SltM.sum_set hx b
          omega
        have hpd : (ps.set k ⟨B1, nb, c3, b⟩).map Sl.l = s.data.set k b := by rw [List.map_set, hps]
        subst hfull hn1 hn2
        refine (refmay8_any ({ s with data := s.data.set k b } : Slt) A1 nF c1 (some ⟨gD, 0, none⟩) nD c2 w4 (OwnP.at_ (s := ({ s with data := s.data.set k b } : Slt)) hX.hp hpd) hsum2 (by omega) (by omega)).mono ?_
        rintro e w5 ⟨r3, rfl, hr3, b5⟩
        have hX5 := hX.call b5
        clear hX b5
        obtain ⟨d0, d1, d2, d3⟩ := hX5.hg.c4
        obtain ⟨x0, x1, x2, x3⟩ := hX5.hr.c4
        have k0 := hX5.hr.frozen 0
        have k1 := hX5.hr.frozen 1
        have k2 := hX5.hr.frozen 2
        have k3 := hX5.hr.frozen 3
        cases r3 with
        | false =>
          have hN3 : ¬ SltM.May ({ s with data := s.data.set k b } : Slt) := fun h => by have := hr3.out.2 h; cases this
          go_wp2
          refine ret_cell rfl gr #[.int .u8 0, .int .u32 0, .slice none 0 0, .slice none 0 0] _ rfl (hX5.hr.set4 _ _ _ _) Try.underlying26 rfl (by kernel_rfl) rfl ?_
          exact .inr ⟨k, Lib.hid rfl, Lib.hid hk, Lib.hid hM, by rw [SltM.put_full hk b]; exact .inr ⟨rfl, Lib.hid hN3, (hX5.fin ({ s with data := s.data.set k b } : Slt) rfl hpd _ _ _ _).2⟩⟩
        | true =>
          have hM3 := hr3.out.1 rfl
          go_wp2
          refine ret_cell rfl gr #[.int .u8 (s.kind : Int), .int .u32 (s.next : Int), .slice A1 nF c1, .slice (some ⟨gD, 0, none⟩) nD c2] _ rfl (hX5.hr.set4 _ _ _ _) Try.underlying26 rfl (by kernel_rfl) rfl ?_
          have hf := hX5.fin ({ s with data := s.data.set k b } : Slt) rfl hpd (.int .u8 (s.kind : Int)) (.int .u32 (s.next : Int)) (.slice A1 nF c1) (.slice (some ⟨gD, 0, none⟩) nD c2)
          exact .inr ⟨k, Lib.hid rfl, Lib.hid hk, Lib.hid hM, by rw [SltM.put_full hk b]; exact .inl ⟨A1, nF, c1, some ⟨gD, 0, none⟩, nD, c2, rfl, hf.1, Lib.hid hM3, hf.2⟩⟩
      · refine ⟨?_, ?_, ?_, ?_, ?_, ?_, ?_, ?_, trivial⟩
        · intro L a w1 hI hi hd
          obtain ⟨g9, B1, c3, hp, hw⟩ := hI
          have t8 := hp.at_ 8 _ rfl z8
          have t8' := t8
          rw [Array.getD_eq_getD_getElem?] at t8'
          exact rstep_valW (wanted_none rfl _) (.pointer (some ⟨G, 3, none⟩)) w1 (by go_simp) ⟨g9, B1, c3, (hp.put 0 22 (.pointer (some ⟨G, 3, none⟩)) (by simp [putP]) (by simp [putP]) rfl (by rw [hsz0]; decide)), hw⟩
        · intro L a w1 hI hi hd
          obtain ⟨g9, B1, c3, hp, hw⟩ := hI
          simp [Region.binds] at hd
          have e0 := hp.pu (0, 22, (.pointer (some ⟨G, 3, none⟩))) (by simp [putP]) (by simp [hd])
          simp only at e0
          have f0 : a.tmps[22]?.getD undef = (.pointer (some ⟨G, 3, none⟩)) := by rw [← Array.getD_eq_getD_getElem?]; exact e0
          have hi : L 1 = false := hi
          have h7 : L 7 = false := hd7 hw.2 hi
          obtain ⟨y0, y1, y2, y3⟩ := (hO.call (hw.1.b0 h7)).hg.c4
          exact rstep_valW (wanted_none rfl _) (.slice (some ⟨gD, 0, none⟩) n2 c2) w1 (by go_simp) ⟨g9, B1, c3, (hp.put 1 23 (.slice (some ⟨gD, 0, none⟩) n2 c2) (by simp [putP]) (by simp [putP]) rfl (by rw [hsz0]; decide)), hw.1, fun _ => upd_eq _ _⟩
        · intro L a w1 hI hi hd
          obtain ⟨g9, B1, c3, hp, hw⟩ := hI
          have t1 := hp.at_ 1 _ rfl z1
          have t1' := t1
          rw [Array.getD_eq_getD_getElem?] at t1'
          exact rstep_valW (wanted_none rfl _) (.int .i64 (k : Int)) w1 (by go_simp) ⟨g9, B1, c3, (hp.put 2 24 (.int .i64 (k : Int)) (by simp [putP]) (by simp [putP]) rfl (by rw [hsz0]; decide)), hw⟩
        · intro L a w1 hI hi hd
          obtain ⟨g9, B1, c3, hp, hw⟩ := hI
          have hi : L 3 = false := hi
          refine rstep_valW (wanted_none rfl _) (.slice (some ⟨w1.heap.size, 0, none⟩) 0 0) (w1.alloc (.cells #[] 5)) (by go_simp) ⟨w1.heap.size, B1, c3, PIF.put (PIF.swap (p2 := (putP gD k B nb cb G n2 c2 w1.heap.size B1 c3)) hp (by intro q hq hL; simp only [putP, List.mem_cons, List.not_mem_nil, or_false] at hq; rcases hq with rfl | rfl | rfl | rfl | rfl | rfl | rfl <;> first | (simp [putP]; done) | (exfalso; simp_all))) 3 25 (.slice (some ⟨w1.heap.size, 0, none⟩) 0 0) (by simp [putP]) (by simp [putP]) rfl (by rw [hsz0]; decide), ?_, hw.2⟩
          exact hw.1.at3 hi
        · intro L a w1 hI hi hd
          obtain ⟨g9, B1, c3, hp, hw⟩ := hI
          have t2 := hp.at_ 2 _ rfl z2
          have t2' := t2
          rw [Array.getD_eq_getD_getElem?] at t2'
          exact rstep_valW (wanted_none rfl _) (.slice B nb cb) w1 (by go_simp) ⟨g9, B1, c3, (hp.put 4 26 (.slice B nb cb) (by simp [putP]) (by simp [putP]) rfl (by rw [hsz0]; decide)), hw⟩
        · intro L a w1 hI hi hd
          obtain ⟨g9, B1, c3, hp, hw⟩ := hI
          simp [Region.binds] at hd
          have e3 := hp.pu (3, 25, (.slice (some ⟨g9, 0, none⟩) 0 0)) (by simp [putP]) (by simp [hd])
          simp only at e3
          have f3 : a.tmps[25]?.getD undef = (.slice (some ⟨g9, 0, none⟩) 0 0) := by rw [← Array.getD_eq_getD_getElem?]; exact e3
          have e4 := hp.pu (4, 26, (.slice B nb cb)) (by simp [putP]) (by simp [hd])
          simp only at e4
          have f4 : a.tmps[26]?.getD undef = (.slice B nb cb) := by rw [← Array.getD_eq_getD_getElem?]; exact e4
          have hi : L 5 = false := hi
          have hO' := hw.1.f3 hd.1 hi
          have hrb := hbr'.below (hw.1.b0 (hw.1.no7 hi))
          obtain ⟨i0, hi0, hz0, hz1, hz2⟩ := info_parts info_u8
          refine rstep_wp rfl (wp_append_row w1 (.tmp 25) (.tmp 26) _ rfl V3.heap.size 5 i0 _ 1 1 Try.underlying27 hi0 hz0 hz1 hz2 rfl (by omega) (.slice (some ⟨g9, 0, none⟩) 0 0) 0 [] e3 hO' B nb cb (bs b) e4 (by rw [bs_length]; omega) hrb (bs_one b) (by unfold maxLen; omega) (by omega) hw.1.gV fun B' c' w2 h1 h2 h3 => ?_)
          simp only [Nat.zero_add, List.nil_append] at h1 h3 ⊢
          refine ⟨g9, B', c', PIF.put (PIF.swap (p2 := (putP gD k B nb cb G n2 c2 g9 B' c')) hp (by intro q hq hL; simp only [putP, List.mem_cons, List.not_mem_nil, or_false] at hq; rcases hq with rfl | rfl | rfl | rfl | rfl | rfl | rfl <;> first | (simp [putP]; done) | (exfalso; simp_all))) 5 27 (.slice B' nb c') (by simp [putP]) (by simp [putP]) rfl (by rw [hsz0]; decide), ?_, hw.2⟩
          exact hw.1.at5 hi hd.1 h1 h2
        · intro L a w1 hI hi hd
          obtain ⟨g9, B1, c3, hp, hw⟩ := hI
          simp [Region.binds] at hd
          have e1 := hp.pu (1, 23, (.slice (some ⟨gD, 0, none⟩) n2 c2)) (by simp [putP]) (by simp [hd])
          simp only at e1
          have f1 : a.tmps[23]?.getD undef = (.slice (some ⟨gD, 0, none⟩) n2 c2) := by rw [← Array.getD_eq_getD_getElem?]; exact e1
          have e2 := hp.pu (2, 24, (.int .i64 (k : Int))) (by simp [putP]) (by simp [hd])
          simp only at e2
          have f2 : a.tmps[24]?.getD undef = (.int .i64 (k : Int)) := by rw [← Array.getD_eq_getD_getElem?]; exact e2
          have hnle : ((((n2 : Nat) : Int) ≤ (k : Int))) = False := by simp; omega
          push_cast at hnle
          exact rstep_valW (wanted_none rfl _) (.pointer (some ⟨gD, k, none⟩)) w1 (by go_simp) ⟨g9, B1, c3, (hp.put 6 28 (.pointer (some ⟨gD, k, none⟩)) (by simp [putP]) (by simp [putP]) rfl (by rw [hsz0]; decide)), hw⟩
        · intro L a w1 hI hi hd
          obtain ⟨g9, B1, c3, hp, hw⟩ := hI
          simp [Region.binds] at hd
          have e5 := hp.pu (5, 27, (.slice B1 nb c3)) (by simp [putP]) (by simp [hd])
          simp only at e5
          have f5 : a.tmps[27]?.getD undef = (.slice B1 nb c3) := by rw [← Array.getD_eq_getD_getElem?]; exact e5
          have e6 := hp.pu (6, 28, (.pointer (some ⟨gD, k, none⟩))) (by simp [putP]) (by simp [hd])
          simp only at e6
          have f6 : a.tmps[28]?.getD undef = (.pointer (some ⟨gD, k, none⟩)) := by rw [← Array.getD_eq_getD_getElem?]; exact e6
          have hi : L 7 = false := hi
          have q5 : L 5 = true := by simp [hd]
          have q1 : L 1 = true := by simp [hd]
          have hO' := hO.call (hw.1.b0 hi)
          obtain ⟨vD, y2⟩ := hO'.hp.li.cell (k := k) (by omega)
          have y3 := hO'.hp.li.frozen k
          refine rstep_skip rfl (w1.setCell ⟨gD, k, none⟩ (.slice B1 nb c3)) (by go_simp) ⟨g9, B1, c3, (hp.skip 7 undef (by simp [putP])), ?_, fun _ => q1⟩
          exact hw.1.at7 hi q5 (hO.put (hw.1.b0 hi) hbn (hw.1.f5 q5 hi)) (grownBy_setCell w1 gD k (.slice B1 nb c3)).size
end Go.Proofs.Ytofbfehpadjbbaa
