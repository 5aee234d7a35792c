/-
  The reading of a record by the document.
  Conditions: the bytes lie in memory as a list; their number is bounded.
-/
import Derived.Test.YtaadfalklddhcaaZItemW5
namespace Go.Proofs.Ytaadfalklddhcaa
open Go.RowKit Go.Sort Go.Lib
set_option linter.unusedVariables false
theorem row_bound {w : World} {A : Option Addr} {l : List UInt8} (h : Row w A (bs l)) : l = [] ∨ ∀ a, A = some a → a.block < w.heap.size := by
  rcases h with h4 | ⟨b, o, e, hc⟩
  · exact .inl (List.map_eq_nil_iff.1 h4)
  · by_cases hl : l = []
    · exact .inl hl
    · right
      intro a ha
      rw [e] at ha
      injection ha with ha
      obtain ⟨u, l', hl'⟩ : ∃ u l', l = u :: l' := by
        cases hq : l with
        | nil => exact absurd hq hl
        | cons u l' => exact ⟨u, l', rfl⟩
      have h0 := hc 0 (.int .u8 (u.toNat : Int)) (by rw [hl']; rfl)
      have := block_lt_of_cell h0
      rw [← ha]; exact this
theorem RdIn.c1 {B : Nat} {t : TypeId} {w : World} {g : Nat} {r : CodeM.Rd} (h : RdIn B t w g r) : w.cell? ⟨g, 1, none⟩ = some (.int .i64 (r.e : Int)) := by
  obtain ⟨A, n, c, hB, _⟩ := h
  have := hB.cell 1
  simpa using this
theorem RdIn.c0 {B : Nat} {t : TypeId} {w : World} {g : Nat} {r : CodeM.Rd} (h : RdIn B t w g r) : ∃ A c, w.cell? ⟨g, 0, none⟩ = some (.slice A r.l.length c) := by
  obtain ⟨A, n, c, hB, rfl, _⟩ := h
  have := hB.cell 0
  exact ⟨A, c, by simpa using this⟩
set_option maxRecDepth 100000 in
set_option maxHeartbeats 8000000 in
theorem refitemread_any (A : Option Addr) (c : Nat) (b : List UInt8) (w : World) (hr : Row w A (bs b)) (hcap : b.length ≤ c) (hmx : c ≤ maxLen) (hc : b.length ≤ 140737488355328) :
    Calls Try.prog 40 #[.slice A b.length c] w (ReadPost (ItemM.readR b) w) := by
  obtain ⟨R0, hR0⟩ : ∃ r, CodeM.Rd.fixed 8 ⟨b, 0⟩ = r := ⟨_, rfl⟩
  obtain ⟨key, r1⟩ := R0
  obtain ⟨R1, hR1⟩ : ∃ r, r1.uv = r := ⟨_, rfl⟩
  obtain ⟨n, r2⟩ := R1
  have hkey : key < 18446744073709551616 := by have := fixed8_lt ⟨b, 0⟩; rw [hR0] at this; exact this
  have hn64 : n < 18446744073709551616 := by have := uv_lt r1; rw [hR1] at this; exact this
  have hP : ItemM.readR b = if r2.e ≠ 0 ∨ 4096 < n then none else ItemM.fin key (ItemM.vecs n r2).1 ((ItemM.vecs n r2).2.text 1024) := by
    unfold ItemM.readR
    rw [hR0]
    simp only [hR1]
  obtain ⟨X0, hX0⟩ : ∃ r, ItemM.readR b = r := ⟨_, rfl⟩
  rw [hX0]
  rw [hX0] at hP
  have HP := Lib.hid hP
  have H0 := Lib.hid hR0
  have H1 := Lib.hid hR1
  clear hP hR0 hR1 hX0
  go_enter Try.func40, Try.ntmps40
  go_wp2_with fail
  have hR := (((Blk.new w 30 #[.int .u64 0, .slice none 0 0, .slice none 0 0]).alloc (.cells #[.slice A b.length c, .int .i64 0] 73)).alloc (.cells #[.int .u64 0, .slice none 0 0, .slice none 0 0] 30))
  have hG := ((Blk.new (w.alloc (.cells #[.int .u64 0, .slice none 0 0, .slice none 0 0] 30)) 73 #[.slice A b.length c, .int .i64 0]).alloc (.cells #[.int .u64 0, .slice none 0 0, .slice none 0 0] 30))
  have hX := (Blk.new ((w.alloc (.cells #[.int .u64 0, .slice none 0 0, .slice none 0 0] 30)).alloc (.cells #[.slice A b.length c, .int .i64 0] 73)) 30 #[.int .u64 0, .slice none 0 0, .slice none 0 0])
  have b1 : Below w.heap.size w (((w.alloc (.cells #[.int .u64 0, .slice none 0 0, .slice none 0 0] 30)).alloc (.cells #[.slice A b.length c, .int .i64 0] 73)).alloc (.cells #[.int .u64 0, .slice none 0 0, .slice none 0 0] 30)) := (((Below.refl _ _).alloc (Nat.le_refl _) _).alloc (by simp) _).alloc (by simp; omega) _
  have e1 : (w.alloc (.cells #[.int .u64 0, .slice none 0 0, .slice none 0 0] 30)).heap.size = w.heap.size + 1 := by simp
  have e2 : ((w.alloc (.cells #[.int .u64 0, .slice none 0 0, .slice none 0 0] 30)).alloc (.cells #[.slice A b.length c, .int .i64 0] 73)).heap.size = w.heap.size + 1 + 1 := by simp
  have e3 : (((w.alloc (.cells #[.int .u64 0, .slice none 0 0, .slice none 0 0] 30)).alloc (.cells #[.slice A b.length c, .int .i64 0] 73)).alloc (.cells #[.int .u64 0, .slice none 0 0, .slice none 0 0] 30)).heap.size = w.heap.size + 3 := by simp
  rw [e1] at hG
  rw [e2] at hX
  have hrow := hr.below b1
  generalize ((w.alloc (.cells #[.int .u64 0, .slice none 0 0, .slice none 0 0] 30)).alloc (.cells #[.slice A b.length c, .int .i64 0] 73)).alloc (.cells #[.int .u64 0, .slice none 0 0, .slice none 0 0] 30) = w1 at *
  clear e1 e2
  have r0 : RdIn w.heap.size 73 w1 (w.heap.size + 1) ⟨b, 0⟩ := ⟨A, b.length, c, hG, rfl, ⟨hcap, hc⟩, hmx, hrow, row_bound hr⟩
  have hgX : w.heap.size + 1 < w.heap.size + 1 + 1 := by omega
  clear hG hrow hr
  refine (refnumI_any (B := w.heap.size) (w.heap.size + 1) ⟨b, 0⟩ 8 w1 r0 (by omega)).mono ?_
  rw [H0.out]
  rintro e w2 ⟨rfl, q1, g2⟩
  dsimp only at *
  have hs2 := g2.size
  have b2 : Below w.heap.size w w2 := below_grown b1 g2 b1.size (by omega)
  have hR2 := hR.grown g2 (by intro q; injection q with q; omega)
  have hX2 := hX.grown g2 (by intro q; injection q with q; omega)
  clear r0 g2 b1 hR hX
  have f0 := hX2.frozen 0
  have c0 := hX2.cell 0
  simp only [List.getElem?_toArray, List.getElem?_cons_zero] at c0
  go_wp2_with fail
  have gg := grownBy_setCell w2 (w.heap.size + 1 + 1) 0 (.int .u64 (key : Int))
  have hX3 := hX2.set_ 0 (.int .u64 (key : Int))
  have hR3 := hR2.grown gg (by intro q; injection q with q; omega)
  have q3 := q1.above gg (by omega) (by omega)
  have b3 := below_grown b2 gg b2.size (by omega)
  have hs3 := gg.size
  generalize w2.setCell ⟨w.heap.size + 1 + 1, 0, none⟩ (.int .u64 (key : Int)) = w3 at *
  clear gg c0 f0 q1 hX2 hR2 b2
  obtain ⟨X, hXe⟩ : ∃ n, w.heap.size + 1 + 1 = n := ⟨_, rfl⟩
  obtain ⟨g, hge⟩ : ∃ n, w.heap.size + 1 = n := ⟨_, rfl⟩
  rw [hXe] at hX3 hgX ⊢
  rw [hge] at q3 hgX ⊢
  refine (refuvI_any (B := w.heap.size) g r1 w3 q3).mono ?_
  rw [H1.out]
  rintro e w4 ⟨rfl, q4, g4⟩
  dsimp only at *
  have hs4 := g4.size
  have hBX : w.heap.size ≤ X := by omega
  have hRX : w.heap.size < X := by omega
  have hgw : w.heap.size < g := by omega
  have I0 : Hid (RInv 73 w w.heap.size w.heap.size X g key r2 0 w4 none 0) := Lib.hid ⟨q4, Own32.nil_ _ _, hX3.grown g4 (by intro q; injection q with q; omega), hR3.grown g4 (by intro q; injection q with q; omega), below_grown b3 g4 b3.size (by omega), by omega⟩
  have hE := I0.out.rd.c1
  rw [show (ItemM.vecs 0 r2).2 = r2 from rfl] at hE
  have HXE := Lib.hid hXe
  have HGE := Lib.hid hge
  clear g4 q4 q3 hX3 hR3 b3 hXe hge
  by_cases hbad : r2.e ≠ 0 ∨ 4096 < n
  · have HN : Hid (X0 = none) := Lib.hid (by rw [HP.out, if_pos hbad])
    by_cases he : r2.e = 0
    · have hee : ((r2.e : Int) == 0) = true := beq_iff_eq.2 (by omega)
      have hbig : 4096 < n := by omega
      have hd0 : decide ((4096 : Int) < n) = true := decide_eq_true (by omega)
      clear hbad
      have f0 := I0.out.r.frozen 0
      have f1 := I0.out.r.frozen 1
      have f2 := I0.out.r.frozen 2
      have c0 := I0.out.r.cell 0
      have c1 := I0.out.r.cell 1
      have c2 := I0.out.r.cell 2
      simp only [List.getElem?_toArray, List.getElem?_cons_zero, List.getElem?_cons_succ] at c0 c1 c2
      go_wp2
      refine ret_cell rfl w.heap.size #[.int .u64 0, .slice none 0 0, .slice none 0 0] _ rfl (((I0.out.r.set_ 0 _).set_ 1 _).set_ 2 _) Try.underlying30 rfl (by kernel_rfl) rfl ?_
      rw [HN.out]
      exact ⟨rfl, below_set (below_set (below_set I0.out.bel I0.out.bel.size (Nat.le_refl _) _ _) (by simpa using I0.out.bel.size) (Nat.le_refl _) _ _) (by simpa using I0.out.bel.size) (Nat.le_refl _) _ _⟩
    · have hee : ((r2.e : Int) == 0) = false := beq_eq_false_iff_ne.2 (by omega)
      have hee2 : ¬ ((r2.e : Int) = 0) := by omega
      clear hbad
      have f0 := I0.out.r.frozen 0
      have f1 := I0.out.r.frozen 1
      have f2 := I0.out.r.frozen 2
      have c0 := I0.out.r.cell 0
      have c1 := I0.out.r.cell 1
      have c2 := I0.out.r.cell 2
      simp only [List.getElem?_toArray, List.getElem?_cons_zero, List.getElem?_cons_succ] at c0 c1 c2
      go_wp2
      refine ret_cell rfl w.heap.size #[.int .u64 0, .slice none 0 0, .slice none 0 0] _ rfl (((I0.out.r.set_ 0 _).set_ 1 _).set_ 2 _) Try.underlying30 rfl (by kernel_rfl) rfl ?_
      rw [HN.out]
      exact ⟨rfl, below_set (below_set (below_set I0.out.bel I0.out.bel.size (Nat.le_refl _) _ _) (by simpa using I0.out.bel.size) (Nat.le_refl _) _ _) (by simpa using I0.out.bel.size) (Nat.le_refl _) _ _⟩
  · have he : r2.e = 0 := by omega
    have hbig : ¬ 4096 < n := by omega
    have hee : ((r2.e : Int) == 0) = true := beq_iff_eq.2 (by omega)
    have hd0 : decide ((4096 : Int) < n) = false := decide_eq_false (by omega)
    have HF : Hid (X0 = ItemM.fin key (ItemM.vecs n r2).1 ((ItemM.vecs n r2).2.text 1024)) := Lib.hid (by rw [HP.out, if_neg hbad])
    clear hbad
    go_wp2
    clear HP H0 H1 hE hee he
    go_loopw [7] (fun i wr => ∃ (k : Nat) (A3 : Option Addr) (c3 : Nat), i = .int .u64 k ∧ k ≤ n ∧ RInv 73 w w.heap.size w.heap.size X g key r2 k wr A3 c3) (fun i _ => n - (RowKit.intOf i).toNat)
    case atStart => exact ⟨0, none, 0, rfl, by omega, I0.out⟩
    case round =>
      obtain ⟨k, A3, c3, rfl, hk, hI⟩ := hrel
      have HI := Lib.hid hI
      clear hI
      by_cases hlt : k < n
      · obtain ⟨q, hq⟩ : ∃ q, (ItemM.vecs k r2).2.fixed 4 = q := ⟨_, rfl⟩
        obtain ⟨m, r'⟩ := q
        have hm : m < 4294967296 := by have := fixed4_lt (ItemM.vecs k r2).2; rw [hq] at this; exact this
        have HQ := Lib.hid hq
        have HV1 : Hid ((ItemM.vecs (k + 1) r2).1 = (ItemM.vecs k r2).1 ++ [ItemM.i32 m]) := Lib.hid (by show (ItemM.vecs k r2).1 ++ [ItemM.i32 ((ItemM.vecs k r2).2.fixed 4).1] = _; rw [hq])
        have HV2 : Hid ((ItemM.vecs (k + 1) r2).2 = r') := Lib.hid (by show ((ItemM.vecs k r2).2.fixed 4).2 = _; rw [hq])
        have hwm : IntKind.i32.wrap (m : Int) = ItemM.i32 m := by rw [IntKind.wrap_i32]; rfl
        have hwu : IntKind.u32.wrap (m : Int) = (m : Int) := by rw [IntKind.wrap_u32]; omega
        have hx1 := HI.out.x.cell 1
        have hx1d : wr.drew.cell? ⟨X, 1, none⟩ = some (.slice A3 k c3) := by simpa using hx1
        have RDD : Hid (RdIn w.heap.size 73 wr.drew g (ItemM.vecs k r2).2) := Lib.hid HI.out.rd
        have OWD : Hid (Own32 wr.drew (X + 1) A3 k c3 (ItemM.vecs k r2).1) := Lib.hid HI.out.own
        have XD : Hid (Blk wr.drew X 30 #[.int .u64 (key : Int), .slice A3 k c3, .slice none 0 0]) := Lib.hid HI.out.x
        have RD : Hid (Blk wr.drew w.heap.size 30 #[.int .u64 0, .slice none 0 0, .slice none 0 0]) := Lib.hid HI.out.r
        have BD : Hid (Below w.heap.size w wr.drew) := Lib.hid ⟨HI.out.bel.os, HI.out.bel.tape, HI.out.bel.output, HI.out.bel.size, HI.out.bel.block⟩
        have SD : Hid (X + 1 ≤ wr.drew.heap.size) := Lib.hid HI.out.size
        clear hq hx1
        go_wp2
        go_region_law (first
          | (refine step_app32 _ rfl (.tmp 27) (.tmp 31) rfl (X + 1) A3 c3 (ItemM.vecs k r2).1 k (by first | rfl | simp [Act.eval, Act.put]) (OW6.out.alloc _) (some ⟨w6.heap.size, 0, none⟩) 1 [ItemM.i32 m] 1 (by first | rfl | simp [Act.eval, Act.put]) rfl (row_i1 w6 _) (by omega) (by have := S6.out; simp; omega) ?_
             intro A7 c7 w7 h7 hg7
             have B7 : Hid (Below (X + 1) w6 w7) := Lib.hid ((OW6.out.alloc _).grown_below rfl hg7 ((Below.refl _ _).alloc S6.out _) (Nat.le_refl _) (by have := S6.out; simp; omega))
             have O7 := Lib.hid h7
             have X7 := Lib.hid (X6.out.below B7.out (by omega))
             have f7 := X7.out.frozen 1
             have c7' := X7.out.cell 1
             simp only [List.getElem?_toArray, List.getElem?_cons_zero, List.getElem?_cons_succ] at c7'
             have RN : Hid (RInv 73 w w.heap.size w.heap.size X g key r2 (k + 1) (w7.setCell ⟨X, 1, none⟩ (.slice A7 (k + 1) c7)) A7 c7) := Lib.hid ⟨by rw [HV2.out]; exact (R6.out.belowC B7.out (by omega) (by omega)).above (grownBy_setCell w7 X 1 _) (by omega) hBX,
               by rw [HV1.out]; exact O7.out.kept (grownBy_setCell w7 X 1 _) (by omega), X7.out.set_ 1 _, (RR6.out.below B7.out (by omega)).grown (grownBy_setCell w7 X 1 _) (by intro q; injection q with q; omega),
               below_set (B6.out.trans (B7.out.mono (by omega))) (Nat.le_trans B6.out.size B7.out.size) (by omega) _ _, by have := S6.out; have := B7.out.size; simp; omega⟩
             clear h7 hg7)
          | (go_simp
             go_at_call 39
             refine (refnumI_any (B := w.heap.size) g _ 4 _ RDD.out (by omega)).mono ?_
             rw [HQ.out]
             rintro e w6 ⟨rfl, q6, g6⟩
             dsimp only at *
             have R6 := Lib.hid q6
             have OW6 := Lib.hid (OWD.out.kept g6 (by omega))
             have X6 := Lib.hid (XD.out.grown g6 (by intro q; injection q with q; omega))
             have RR6 := Lib.hid (RD.out.grown g6 (by intro q; injection q with q; omega))
             have B6 := Lib.hid (below_grown BD.out g6 BD.out.size (by omega))
             have S6 : Hid (X + 1 ≤ w6.heap.size) := Lib.hid (Nat.le_trans SD.out g6.size)
             have hx6 : w6.cell? ⟨X, 1, none⟩ = some (.slice A3 k c3) := by
               have := X6.out.cell 1
               simpa using this
             have hx6a : (w6.alloc (.cells #[.int .i32 (ItemM.i32 m)] 21)).cell? ⟨X, 1, none⟩ = some (.slice A3 k c3) := by
               have := (X6.out.alloc (.cells #[.int .i32 (ItemM.i32 m)] 21)).cell 1
               simpa using this
             clear q6 g6))
        all_goals go_wp2
        all_goals refine ⟨⟨k + 1, A7, c7, by go_num, by omega, RN.out⟩, ?_⟩
        all_goals (simp [RowKit.intOf]; omega)
      · obtain rfl : k = n := by omega
        obtain ⟨T, hT⟩ : ∃ q, (ItemM.vecs k r2).2.text 1024 = q := ⟨_, rfl⟩
        obtain ⟨s, r4⟩ := T
        rw [hT] at HF
        have HT := Lib.hid hT
        have hlen := HI.out.own.len
        have HL := Lib.hid hlen
        clear hT hlen
        go_wp2_with fail
        refine (reftextI_any (B := w.heap.size) g _ 1024 wr HI.out.rd (by omega) (by omega)).mono ?_
        rw [HT.out]
        rintro e w5 ⟨A5, n5, c5, rfl, hn5, o5, q5, g5⟩
        dsimp only at *
        have hX5 := HI.out.x.grown g5 (by intro q; injection q with q; omega)
        have f2 := hX5.frozen 2
        have c2 := hX5.cell 2
        simp only [List.getElem?_toArray, List.getElem?_cons_zero, List.getElem?_cons_succ] at c2
        have hR5 := HI.out.r.grown g5 (by intro q; injection q with q; omega)
        have hv5 := HI.out.own.kept g5 (by omega)
        have hb5 := below_grown HI.out.bel g5 HI.out.bel.size (by omega)
        have hs5 := HI.out.size
        have gg := grownBy_setCell w5 X 2 (.slice A5 n5 c5)
        have X6 := Lib.hid (hX5.set_ 2 (.slice A5 n5 c5))
        have R6 := Lib.hid (hR5.grown gg (by intro q; injection q with q; omega))
        have V6 := Lib.hid (hv5.kept gg (by omega))
        have T6 := Lib.hid (o5.kept gg (by omega))
        have B6 := Lib.hid (below_grown hb5 gg hb5.size (by omega))
        have Q6 := Lib.hid (q5.above gg (by omega) hBX)
        have S6 : Hid (X + 1 ≤ wr.heap.size) := Lib.hid hs5
        have z1 := q5.c1
        obtain ⟨Az, cz, z0⟩ := q5.c0
        have y1 := Q6.out.c1
        obtain ⟨Ay, cy, y0⟩ := Q6.out.c0
        clear q5 o5 g5 hX5 hR5 hv5 hb5 gg HI hs5
        have HM : Hid ((if k = 0 ∨ 4096 < k then 9 else if 1024 < n5 then 3 else 0) = ItemM.may ⟨key, (ItemM.vecs k r2).1, s⟩) := Lib.hid (by unfold ItemM.may; dsimp only; rw [HL.out, hn5.out])
        have c0 := X6.out.cell 0
        have c1 := X6.out.cell 1
        have c2' := X6.out.cell 2
        simp only [List.setIfInBounds_toArray, List.set_cons_succ, List.set_cons_zero, List.getElem?_toArray, List.getElem?_cons_zero, List.getElem?_cons_succ] at c0 c1 c2'
        obtain ⟨w6, hw6⟩ : ∃ v, w5.setCell ⟨X, 2, none⟩ (.slice A5 n5 c5) = v := ⟨_, rfl⟩
        rw [hw6] at X6 R6 V6 T6 B6 Q6 y1 y0 c0 c1 c2'
        by_cases he : r4.e = 0
        · have hee : ((r4.e : Int) == 0) = true := beq_iff_eq.2 (by omega)
          by_cases hl : r4.l = []
          · have hll : decide ((0 : Int) < (r4.l.length : Int)) = false := decide_eq_false (by rw [hl]; simp)
            go_wp2_with fail
            refine (refmay_any (key : Int) A3 A5 k c3 n5 c5 w6 (by omega) (by have := T6.out.le; have := hn5.out; unfold maxLen at *; omega)).mono ?_
            rw [HM.out]
            rintro e w7 ⟨rfl, hb7⟩
            have BB := Lib.hid (below_step B6.out hb7 (Nat.le_refl _))
            have R7 := Lib.hid (R6.out.below hb7 R6.out.lt)
            obtain ⟨mv, hmv⟩ : ∃ m, ItemM.may ⟨key, (ItemM.vecs k r2).1, s⟩ = m := ⟨_, rfl⟩
            rw [hmv]
            by_cases hm0 : mv = 0
            · have hq : ((mv : Int) == 0) = true := beq_iff_eq.2 (by omega)
              have HN : Hid (X0 = some ⟨key, (ItemM.vecs k r2).1, s⟩) := Lib.hid (by rw [HF.out]; unfold ItemM.fin; rw [if_neg (by rintro (h | h | h); exact h he; exact h hl; exact h (hmv.trans hm0))])
              have d0 := cell_below hb7 c0
              have d1 := cell_below hb7 c1
              have d2 := cell_below hb7 c2'
              have V7 := Lib.hid (V6.out.below hb7)
              have T7 := Lib.hid (T6.out.below hb7)
              have f0 := R7.out.frozen 0
              have f1 := R7.out.frozen 1
              have f2' := R7.out.frozen 2
              have k0 := R7.out.cell 0
              have k1 := R7.out.cell 1
              have k2 := R7.out.cell 2
              simp only [List.getElem?_toArray, List.getElem?_cons_zero, List.getElem?_cons_succ] at k0 k1 k2
              clear hw6
              go_wp2
              refine ret_cell rfl w.heap.size #[.int .u64 (key : Int), .slice A3 k c3, .slice A5 n5 c5] _ rfl (((R7.out.set_ 0 _).set_ 1 _).set_ 2 _) Try.underlying30 rfl (by kernel_rfl) rfl ?_
              rw [HN.out]
              have V8 := ((V7.out.kept (grownBy_setCell w7 w.heap.size 0 (.int .u64 (key : Int))) (by omega)).kept (grownBy_setCell _ w.heap.size 1 (.slice A3 k c3)) (by omega)).kept (grownBy_setCell _ w.heap.size 2 (.slice A5 n5 c5)) (by omega)
              have T8 := ((T7.out.kept (grownBy_setCell w7 w.heap.size 0 (.int .u64 (key : Int))) (by have := S6.out; omega)).kept (grownBy_setCell _ w.heap.size 1 (.slice A3 k c3)) (by have := S6.out; omega)).kept (grownBy_setCell _ w.heap.size 2 (.slice A5 n5 c5)) (by have := S6.out; omega)
              exact ⟨A3, k, c3, A5, n5, c5, rfl, HL, hn5, V8.base_ (by omega), T8.base_ (by have := S6.out; omega), below_set (below_set (below_set BB.out BB.out.size (Nat.le_refl _) _ _) (by simpa using BB.out.size) (Nat.le_refl _) _ _) (by simpa using BB.out.size) (Nat.le_refl _) _ _⟩
            · have hq : ((mv : Int) == 0) = false := beq_eq_false_iff_ne.2 (by omega)
              have HN : Hid (X0 = none) := Lib.hid (by rw [HF.out]; unfold ItemM.fin; rw [if_pos (.inr (.inr (by rw [hmv]; exact hm0)))])
              clear c0 c1 c2' hw6
              have f0 := R7.out.frozen 0
              have f1 := R7.out.frozen 1
              have f2' := R7.out.frozen 2
              have c0 := R7.out.cell 0
              have c1 := R7.out.cell 1
              have c2'' := R7.out.cell 2
              simp only [List.getElem?_toArray, List.getElem?_cons_zero, List.getElem?_cons_succ] at c0 c1 c2''
              go_wp2
              refine ret_cell rfl w.heap.size #[.int .u64 0, .slice none 0 0, .slice none 0 0] _ rfl (((R7.out.set_ 0 _).set_ 1 _).set_ 2 _) Try.underlying30 rfl (by kernel_rfl) rfl ?_
              rw [HN.out]
              exact ⟨rfl, below_set (below_set (below_set BB.out BB.out.size (Nat.le_refl _) _ _) (by simpa using BB.out.size) (Nat.le_refl _) _ _) (by simpa using BB.out.size) (Nat.le_refl _) _ _⟩
          · have hll2 : (0 : Int) < (r4.l.length : Int) := by have := List.length_pos_iff.2 hl; omega
            have hll : decide ((0 : Int) < (r4.l.length : Int)) = true := decide_eq_true hll2
            have hll3 : 0 < r4.l.length := by omega
            have HN : Hid (X0 = none) := Lib.hid (by rw [HF.out]; unfold ItemM.fin; rw [if_pos (.inr (.inl hl))])
            clear c0 c1 c2'
            subst hw6
            have f0 := R6.out.frozen 0
            have f1 := R6.out.frozen 1
            have f2' := R6.out.frozen 2
            have c0 := R6.out.cell 0
            have c1 := R6.out.cell 1
            have c2'' := R6.out.cell 2
            simp only [List.getElem?_toArray, List.getElem?_cons_zero, List.getElem?_cons_succ] at c0 c1 c2''
            go_wp2
            refine ret_cell rfl w.heap.size #[.int .u64 0, .slice none 0 0, .slice none 0 0] _ rfl (((R6.out.set_ 0 _).set_ 1 _).set_ 2 _) Try.underlying30 rfl (by kernel_rfl) rfl ?_
            rw [HN.out]
            exact ⟨rfl, below_set (below_set (below_set B6.out B6.out.size (Nat.le_refl _) _ _) (by simpa using B6.out.size) (Nat.le_refl _) _ _) (by simpa using B6.out.size) (Nat.le_refl _) _ _⟩
        · have hee : ((r4.e : Int) == 0) = false := beq_eq_false_iff_ne.2 (by omega)
          have hee2 : ¬ ((r4.e : Int) = 0) := by omega
          have HN : Hid (X0 = none) := Lib.hid (by rw [HF.out]; unfold ItemM.fin; rw [if_pos (.inl he)])
          clear c0 c1 c2'
          subst hw6
          have f0 := R6.out.frozen 0
          have f1 := R6.out.frozen 1
          have f2' := R6.out.frozen 2
          have c0 := R6.out.cell 0
          have c1 := R6.out.cell 1
          have c2'' := R6.out.cell 2
          simp only [List.getElem?_toArray, List.getElem?_cons_zero, List.getElem?_cons_succ] at c0 c1 c2''
          go_wp2
          refine ret_cell rfl w.heap.size #[.int .u64 0, .slice none 0 0, .slice none 0 0] _ rfl (((R6.out.set_ 0 _).set_ 1 _).set_ 2 _) Try.underlying30 rfl (by kernel_rfl) rfl ?_
          rw [HN.out]
          exact ⟨rfl, below_set (below_set (below_set B6.out B6.out.size (Nat.le_refl _) _ _) (by simpa using B6.out.size) (Nat.le_refl _) _ _) (by simpa using B6.out.size) (Nat.le_refl _) _ _⟩
end Go.Proofs.Ytaadfalklddhcaa
