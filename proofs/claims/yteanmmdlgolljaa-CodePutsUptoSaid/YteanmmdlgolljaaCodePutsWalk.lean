/-
  The walk of CodePuts: it returns true and changes nothing that was there.
  Conditions: the bytes lie in memory as lists; their number is bounded.
-/
import Derived.Test.YteanmmdlgolljaaCodeP1
namespace Go.Proofs.Yteanmmdlgolljaa
open Go.RowKit Go.Sort Go.Lib
set_option linter.unusedVariables false
theorem newb_some {l : List UInt8} {w : World} {e : Ending} {w' : World} (h : NewB l w e w') (hl : l ≠ []) : ∃ p : Pt, e = .returned (.slice (some ⟨p.g, 0, none⟩) p.n p.c) ∧ p.l = l ∧ Hid (p.l.length = p.n) ∧ Own w' w.heap.size (some ⟨p.g, 0, none⟩) p.c p.l ∧ w.heap.size ≤ p.g ∧ p.g < w'.heap.size ∧ Below w.heap.size w w' := by
  obtain ⟨A, n, c, e1, h1, h2, h3⟩ := h
  obtain ⟨g, rfl, h4, h5⟩ := h2.some_ hl
  exact ⟨⟨g, n, c, l⟩, e1, rfl, h1, h2, h4, h5, h3⟩
theorem fx_ne (k n : Nat) (hk : 0 < k) : CodeM.fx k n ≠ [] := by
  intro h
  have := CodeM.fx_length k n
  rw [h] at this
  simp at this; omega
theorem uv_ne (n : Nat) : CodeM.uv n ≠ [] := by
  intro h
  have := (CodeM.uv_length n).1
  rw [h] at this
  simp at this
theorem tx_ne (s : List UInt8) : CodeM.tx s ≠ [] := by
  unfold CodeM.tx
  intro h
  exact uv_ne _ (List.append_eq_nil_iff.1 h).1
theorem forms_len {n : Nat} {s l : List UInt8} (h : l ∈ [CodeM.fx 2 n, CodeM.fx 4 n, CodeM.fx 8 n, CodeM.uv n, CodeM.tx s]) : l.length ≤ s.length + 10 := by
  simp only [List.mem_cons, List.not_mem_nil, or_false] at h
  have h4 := (CodeM.uv_length n).2
  have h5 := (CodeM.uv_length s.length).2
  rcases h with rfl | rfl | rfl | rfl | rfl
  · rw [CodeM.fx_length]; omega
  · rw [CodeM.fx_length]; omega
  · rw [CodeM.fx_length]; omega
  · omega
  · unfold CodeM.tx; rw [List.length_append]; omega
theorem str_at (w : World) (A : Option Addr) (n c : Nat) (l : List UInt8) (hn : l.length = n) (hr : Row w A (bs l)) : (convert 22 9 (.slice A n c)).run Try.prog w = .ok (.string (str l)) w := by
  subst hn; exact run_str w c hr
/-- The five forms. -/
def forms (n : Nat) (s : List UInt8) : List (List UInt8) := [CodeM.fx 2 n, CodeM.fx 4 n, CodeM.fx 8 n, CodeM.uv n, CodeM.tx s]
set_option maxRecDepth 100000 in
set_option maxHeartbeats 4000000 in
theorem codePuts_core (A A2 : Option Addr) (c c2 n : Nat) (b s : List UInt8) (w : World) (hr : Row w A (bs b)) (hcc : b.length ≤ c) (hc : b.length ≤ 1048576) (hr2 : Row w A2 (bs s)) (hcc2 : s.length ≤ c2) (hc2 : s.length ≤ 1048576) (hn : n < 18446744073709551616) :
    Calls Try.prog 4 #[.slice A b.length c, .slice A2 s.length c2, .int .u64 (n : Int)] w fun e w' => e = .returned (.bool true) ∧ Below w.heap.size w w' := by
  have f16 : CodeM.fx 2 (n % 65536) = CodeM.fx 2 n := fx_mod 2 n
  have f32 : CodeM.fx 4 (n % 4294967296) = CodeM.fx 4 n := fx_mod 4 n
  have hw16 : IntKind.u16.wrap (n : Int) = ((n % 65536 : Nat) : Int) := by rw [IntKind.wrap_u16]; omega
  have hw32 : IntKind.u32.wrap (n : Int) = ((n % 4294967296 : Nat) : Int) := by rw [IntKind.wrap_u32]; omega
  obtain ⟨m16, em16⟩ : ∃ m, n % 65536 = m := ⟨_, rfl⟩
  obtain ⟨m32, em32⟩ : ∃ m, n % 4294967296 = m := ⟨_, rfl⟩
  have q16 : (n : Int) % 65536 = (m16 : Int) := by omega
  have q32 : (n : Int) % 4294967296 = (m32 : Int) := by omega
  have hm16 : m16 < 65536 := by omega
  have hm32 : m32 < 4294967296 := by omega
  rw [em16] at f16 hw16
  rw [em32] at f32 hw32
  clear em16 em32
  have F16 := Lib.hid f16
  have F32 := Lib.hid f32
  clear f16 f32
  go_enter Try.func4, Try.ntmps4
  go_wp2_with fail
  refine (lent02_any A c b w hr (by omega)).mono ?_
  rintro e w1 ⟨gx, cx, rfl, hcx, hcx2, hgx, hgx1, ox, b1⟩
  go_wp2_with fail
  refine (lent02_any A2 c2 s w1 (hr2.below b1) (by omega)).mono ?_
  rintro e w2 ⟨gy, cy, rfl, hcy, hcy2, hgy, hgy1, oy, b2⟩
  have b02 := below_join b1 b2
  have s01 := b1.size
  have s12 := b2.size
  have ox2 := ox.below b2
  have rx : Row w2 (some ⟨gx, 0, none⟩) (bs b) := by
    have := ox2.row.take b.length
    rwa [← bs_length b, bs_append, List.take_left] at this
  have ry : Row w2 (some ⟨gy, 0, none⟩) (bs s) := by
    have := oy.row.take s.length
    rwa [← bs_length s, bs_append, List.take_left] at this
  have RX := Lib.hid ox2.row
  have RY := Lib.hid oy.row
  clear ox oy ox2
  go_wp2_with fail
  refine (Put16_any (some ⟨gx, 0, none⟩) cx m16 b w2 rx (by omega) hm16).mono fun e v h => ?_
  rw [F16.out] at h
  obtain ⟨p1, rfl, l1, n1, o1, u1, v1, k1⟩ := newb_some h (by intro q; exact fx_ne 2 n (by omega) (List.append_eq_nil_iff.1 q).2)
  clear h
  have s3 := k1.size
  go_wp2_with fail
  refine (Put32_any (some ⟨gx, 0, none⟩) cx m32 b v (rx.below k1) (by omega) hm32).mono fun e v2 h => ?_
  rw [F32.out] at h
  obtain ⟨p2, rfl, l2, n2, o2, u2, v2', k2⟩ := newb_some h (by intro q; exact fx_ne 4 n (by omega) (List.append_eq_nil_iff.1 q).2)
  clear h
  have k12 := below_join k1 k2
  have s4 := k2.size
  go_wp2_with fail
  refine (Put64_any (some ⟨gx, 0, none⟩) cx n b v2 (rx.below k12) (by omega) hn).mono fun e v3 h => ?_
  obtain ⟨p3, rfl, l3, n3, o3, u3, v3', k3⟩ := newb_some h (by intro q; exact fx_ne 8 n (by omega) (List.append_eq_nil_iff.1 q).2)
  clear h
  have k13 := below_join k12 k3
  have s5 := k3.size
  go_wp2_with fail
  refine (putuv_any (some ⟨gx, 0, none⟩) cx n b v3 (rx.below k13) (by omega) hn).mono fun e v4 h => ?_
  obtain ⟨p4, rfl, l4, n4, o4, u4, v4', k4⟩ := newb_some h (by intro q; exact uv_ne n (List.append_eq_nil_iff.1 q).2)
  clear h
  have k14 := below_join k13 k4
  have s6 := k4.size
  go_wp2_with fail
  refine (PutText_any (some ⟨gx, 0, none⟩) (some ⟨gy, 0, none⟩) cx cy b s v4 (rx.below k14) (ry.below k14) (by omega)).mono fun e v5 h => ?_
  obtain ⟨p5, rfl, l5, n5, o5, u5, v5', k5⟩ := newb_some h (by intro q; exact tx_ne s (List.append_eq_nil_iff.1 q).2)
  clear h
  have k15 := below_join k14 k5
  have s7 := k5.size
  have z1 := ((((o1.below k2).below k3).below k4).below k5)
  have z2 := (((o2.below k3).below k4).below k5).base_ s3
  have z3 := ((o3.below k4).below k5).base_ (Nat.le_trans s3 s4)
  have z4 := (o4.below k5).base_ (Nat.le_trans (Nat.le_trans s3 s4) s5)
  have z5 := o5.base_ (Nat.le_trans (Nat.le_trans (Nat.le_trans s3 s4) s5) s6)
  have HZ : Hid (∀ p ∈ [p1, p2, p3, p4, p5], Own v5 w2.heap.size (some ⟨p.g, 0, none⟩) p.c p.l) := Lib.hid (by
    intro p hp
    simp only [List.mem_cons, List.not_mem_nil, or_false] at hp
    rcases hp with rfl | rfl | rfl | rfl | rfl <;> assumption)
  have HPS : Hid ([p1, p2, p3, p4, p5].Pairwise (fun p q => p.g < q.g)) := Lib.hid (by
    simp only [List.pairwise_cons, List.mem_cons, List.not_mem_nil, or_false, forall_eq_or_imp, forall_eq, List.Pairwise.nil, and_true]
    refine ⟨⟨?_, ?_, ?_, ?_⟩, ⟨?_, ?_, ?_⟩, ⟨?_, ?_⟩, ?_, fun a h => h.elim⟩ <;> omega)
  have HPB : Hid (∀ p ∈ [p1, p2, p3, p4, p5], w2.heap.size ≤ p.g ∧ p.g < v5.heap.size) := Lib.hid (by
    intro p hp
    simp only [List.mem_cons, List.not_mem_nil, or_false] at hp
    rcases hp with rfl | rfl | rfl | rfl | rfl <;> omega)
  have HPN : Hid (∀ p ∈ [p1, p2, p3, p4, p5], p.l.length = p.n) := Lib.hid (by
    intro p hp
    simp only [List.mem_cons, List.not_mem_nil, or_false] at hp
    rcases hp with rfl | rfl | rfl | rfl | rfl
    · exact n1.out
    · exact n2.out
    · exact n3.out
    · exact n4.out
    · exact n5.out)
  have HPL : Hid ([p1, p2, p3, p4, p5].map Pt.l = (forms n s).map (b ++ ·)) := Lib.hid (by
    simp only [forms, List.map_cons, List.map_nil, l1, l2, l3, l4, l5])
  have rx5 := Lib.hid (RX.out.below k15)
  have ry5 := Lib.hid (RY.out.below k15)
  have b05 := Lib.hid (below_join b02 k15)
  have s25 := k15.size
  have r25 := Lib.hid (hr.below b05.out)
  have r25' := Lib.hid (hr2.below b05.out)
  clear z1 z2 z3 z4 z5 o1 o2 o3 o4 o5 n1 n2 n3 n4 n5 l1 l2 l3 l4 l5 k1 k2 k3 k4 k5 k12 k13 k14 k15 b1 b2 b02 rx ry s3 s4 s5 s6 s7 u1 u2 u3 u4 u5 v1 v2' v3' v4' v5' RX RY
  have HR := Lib.hid hr
  have HR2 := Lib.hid hr2
  clear hr hr2
  go_wp2_with fail
  have l6 : Hid (Lst (v5.alloc (.cells #[.slice (some ⟨p1.g, 0, none⟩) p1.n p1.c, .slice (some ⟨p2.g, 0, none⟩) p2.n p2.c, .slice (some ⟨p3.g, 0, none⟩) p3.n p3.c, .slice (some ⟨p4.g, 0, none⟩) p4.n p4.c, .slice (some ⟨p5.g, 0, none⟩) p5.n p5.c] 22)) v5.heap.size [p1, p2, p3, p4, p5]) := Lib.hid (Blk.new v5 _ _)
  have b6 : Below v5.heap.size v5 (v5.alloc (.cells #[.slice (some ⟨p1.g, 0, none⟩) p1.n p1.c, .slice (some ⟨p2.g, 0, none⟩) p2.n p2.c, .slice (some ⟨p3.g, 0, none⟩) p3.n p3.c, .slice (some ⟨p4.g, 0, none⟩) p4.n p4.c, .slice (some ⟨p5.g, 0, none⟩) p5.n p5.c] 22)) := (Below.refl _ _).alloc (Nat.le_refl _) _
  have s6 : (v5.alloc (.cells #[.slice (some ⟨p1.g, 0, none⟩) p1.n p1.c, .slice (some ⟨p2.g, 0, none⟩) p2.n p2.c, .slice (some ⟨p3.g, 0, none⟩) p3.n p3.c, .slice (some ⟨p4.g, 0, none⟩) p4.n p4.c, .slice (some ⟨p5.g, 0, none⟩) p5.n p5.c] 22)).heap.size = v5.heap.size + 1 := by simp
  generalize v5.alloc (.cells #[.slice (some ⟨p1.g, 0, none⟩) p1.n p1.c, .slice (some ⟨p2.g, 0, none⟩) p2.n p2.c, .slice (some ⟨p3.g, 0, none⟩) p3.n p3.c, .slice (some ⟨p4.g, 0, none⟩) p4.n p4.c, .slice (some ⟨p5.g, 0, none⟩) p5.n p5.c] 22) = v6 at *
  refine (reffixed_any n 2 v6 hn (by omega)).mono fun e x1 h => ?_
  obtain ⟨q1, rfl, l1, n1, o1, u1, w1', k1⟩ := newb_some h (fx_ne 2 n (by omega))
  clear h
  have t1 := k1.size
  go_wp2_with fail
  refine (reffixed_any n 4 x1 hn (by omega)).mono fun e x2 h => ?_
  obtain ⟨q2, rfl, l2, n2, o2, u2, w2', k2⟩ := newb_some h (fx_ne 4 n (by omega))
  clear h
  have t2 := k2.size
  have k12 := below_join k1 k2
  go_wp2_with fail
  refine (reffixed_any n 8 x2 hn (by omega)).mono fun e x3 h => ?_
  obtain ⟨q3, rfl, l3, n3, o3, u3, w3', k3⟩ := newb_some h (fx_ne 8 n (by omega))
  clear h
  have t3 := k3.size
  have k13 := below_join k12 k3
  go_wp2_with fail
  refine (refputuv_any n x3 hn).mono fun e x4 h => ?_
  obtain ⟨q4, rfl, l4, n4, o4, u4, w4', k4⟩ := newb_some h (uv_ne n)
  clear h
  have t4 := k4.size
  have k14 := below_join k13 k4
  go_wp2_with fail
  refine (reftxt_any A2 c2 s x4 (r25'.out.below (below_join b6 k14)) (by omega)).mono fun e x5 h => ?_
  obtain ⟨q5, rfl, l5, n5, o5, u5, w5', k5⟩ := newb_some h (tx_ne s)
  clear h
  have t5 := k5.size
  have k15 := below_join k14 k5
  have HQ : Hid (∀ q ∈ [q1, q2, q3, q4, q5], Row x5 (some ⟨q.g, 0, none⟩) (bs q.l)) := Lib.hid (by
    intro p hp
    simp only [List.mem_cons, List.not_mem_nil, or_false] at hp
    rcases hp with rfl | rfl | rfl | rfl | rfl
    · exact ((((o1.row.below k2).below k3).below k4).below k5)
    · exact (((o2.row.below k3).below k4).below k5)
    · exact ((o3.row.below k4).below k5)
    · exact (o4.row.below k5)
    · exact o5.row)
  have HQN : Hid (∀ p ∈ [q1, q2, q3, q4, q5], p.l.length = p.n) := Lib.hid (by
    intro p hp
    simp only [List.mem_cons, List.not_mem_nil, or_false] at hp
    rcases hp with rfl | rfl | rfl | rfl | rfl
    · exact n1.out
    · exact n2.out
    · exact n3.out
    · exact n4.out
    · exact n5.out)
  have HQL : Hid ([q1, q2, q3, q4, q5].map Pt.l = forms n s) := Lib.hid (by
    simp only [forms, List.map_cons, List.map_nil, l1, l2, l3, l4, l5])
  have HQB : Hid (∀ q ∈ [q1, q2, q3, q4, q5], v6.heap.size ≤ q.g) := Lib.hid (by
    intro p hp
    simp only [List.mem_cons, List.not_mem_nil, or_false] at hp
    rcases hp with rfl | rfl | rfl | rfl | rfl <;> omega)
  have b65 := Lib.hid (below_join b6 k15)
  have l65 := Lib.hid (Blk.below l6.out k15 (Blk.lt l6.out))
  clear o1 o2 o3 o4 o5 n1 n2 n3 n4 n5 l1 l2 l3 l4 l5 k1 k2 k3 k4 k5 k12 k13 k14 k15 w1' w2' w3' w4' w5' u1 u2 u3 u4 u5 l6 b6
  go_wp2
  have IV : Hid (Inv w w2.heap.size gx gy v5.heap.size x5.heap.size (b ++ [77, 78]) (s ++ [77, 78]) [p1, p2, p3, p4, p5] [q1, q2, q3, q4, q5] 0 (x5.alloc (.cells #[.slice (some ⟨q1.g, 0, none⟩) q1.n q1.c, .slice (some ⟨q2.g, 0, none⟩) q2.n q2.c, .slice (some ⟨q3.g, 0, none⟩) q3.n q3.c, .slice (some ⟨q4.g, 0, none⟩) q4.n q4.c, .slice (some ⟨q5.g, 0, none⟩) q5.n q5.c] 22))) := Lib.hid (by
    have bb : Below x5.heap.size x5 (x5.alloc (.cells #[.slice (some ⟨q1.g, 0, none⟩) q1.n q1.c, .slice (some ⟨q2.g, 0, none⟩) q2.n q2.c, .slice (some ⟨q3.g, 0, none⟩) q3.n q3.c, .slice (some ⟨q4.g, 0, none⟩) q4.n q4.c, .slice (some ⟨q5.g, 0, none⟩) q5.n q5.c] 22)) := (Below.refl _ _).alloc (Nat.le_refl _) _
    have b3 := below_join b65.out bb
    refine ⟨Blk.below l65.out bb (Blk.lt l65.out), Blk.new x5 _ _, fun p hp => (HZ.out p hp).below b3, fun q hq => (HQ.out q hq).below bb, rx5.out.below b3, ry5.out.below b3, below_join b05.out b3, ?_⟩
    have := b3.size
    omega)
  have hsz : (x5.alloc (.cells #[.slice (some ⟨q1.g, 0, none⟩) q1.n q1.c, .slice (some ⟨q2.g, 0, none⟩) q2.n q2.c, .slice (some ⟨q3.g, 0, none⟩) q3.n q3.c, .slice (some ⟨q4.g, 0, none⟩) q4.n q4.c, .slice (some ⟨q5.g, 0, none⟩) q5.n q5.c] 22)).heap.size = x5.heap.size + 1 := by simp
  generalize x5.alloc (.cells #[.slice (some ⟨q1.g, 0, none⟩) q1.n q1.c, .slice (some ⟨q2.g, 0, none⟩) q2.n q2.c, .slice (some ⟨q3.g, 0, none⟩) q3.n q3.c, .slice (some ⟨q4.g, 0, none⟩) q4.n q4.c, .slice (some ⟨q5.g, 0, none⟩) q5.n q5.c] 22) = x6 at *
  clear HZ HQ
  have HPC : Hid ([p1, p2, p3, p4, p5].length = 5) := Lib.hid rfl
  have HQC : Hid ([q1, q2, q3, q4, q5].length = 5) := Lib.hid rfl
  generalize [p1, p2, p3, p4, p5] = Ps at *
  generalize [q1, q2, q3, q4, q5] = Qs at *
  generalize hG1 : v5.heap.size = G1 at *
  generalize hG2 : x5.heap.size = G2 at *
  have s62 : G1 + 1 ≤ G2 := by omega
  clear b65 l65 rx5 ry5 b05 r25 r25' hG1 hG2 hsz F16 F32
  have S2 : w2.heap.size ≤ G1 := s25
  generalize hS2 : w2.heap.size = s0 at *
  clear t1 t2 t3 t4 t5 hS2
  have HB6 : Hid (∀ q ∈ Qs, G1 + 1 ≤ q.g) := Lib.hid (by intro q hq; have := HQB.out q hq; rw [s6] at this; exact this)
  clear HQB s6
  go_loopw [11] (fun i wr => ∃ k : Nat, i = .int .i64 k ∧ k ≤ 5 ∧ Inv w s0 gx gy G1 G2 (b ++ [77, 78]) (s ++ [77, 78]) Ps Qs k wr) (fun i _ => 5 - (intOf i).toNat)
  case atStart => exact ⟨0, rfl, by omega, IV.out⟩
  case round =>
    obtain ⟨k, rfl, hk, hI⟩ := hrel
    by_cases hlt : k < 5
    · obtain ⟨p, hp⟩ : ∃ p, Ps[k]? = some p := ⟨_, List.getElem?_eq_getElem (by have := HPC.out; omega)⟩
      obtain ⟨q, hq⟩ : ∃ q, Qs[k]? = some q := ⟨_, List.getElem?_eq_getElem (by have := HQC.out; omega)⟩
      have hpm : p ∈ Ps := List.mem_of_getElem? hp
      have hqm : q ∈ Qs := List.mem_of_getElem? hq
      have hpl : p.l = b ++ q.l := by
        have h1 : (Ps.map Pt.l)[k]? = some p.l := by simp [hp]
        rw [HPL.out, ← HQL.out] at h1
        simp [hq] at h1; exact h1.symm
      have hpd : p ∈ Ps.drop k := List.mem_of_getElem? (i := 0) (by rw [List.getElem?_drop]; exact hp)
      have hql : q.l.length ≤ 1048600 := by
        have : q.l ∈ Qs.map Pt.l := List.mem_map_of_mem hqm
        rw [HQL.out] at this
        have := forms_len this
        omega
      have hqn := HQN.out q hqm
      have hpn := HPN.out p hpm
      have hown := hI.o1 p hpd
      have hpb := HPB.out p hpm
      have hqb := HB6.out q hqm
      have hsep : ∀ p' ∈ Ps.drop (k + 1), p.g < p'.g := by
        have h1 := HPS.out
        rw [← List.take_append_drop k Ps, List.pairwise_append] at h1
        have h2 := h1.2.1
        obtain ⟨hk5, he⟩ := List.getElem?_eq_some_iff.1 hp
        rw [← List.getElem_cons_drop hk5, List.pairwise_cons, he] at h2
        exact h2.1
      have hrq := hI.o2 q hqm
      have HB : Hid (Row wr A (bs b)) := Lib.hid (HR.out.below hI.bel)
      have HK : Hid (∀ w', Below wr.heap.size wr w' → w'.cell? ⟨G1, k, none⟩ = some (.slice (some ⟨p.g, 0, none⟩) p.n p.c) ∧ w'.cell? ⟨G2, k, none⟩ = some (.slice (some ⟨q.g, 0, none⟩) q.n q.c) ∧ (convert 22 9 (.slice (some ⟨p.g, 0, none⟩) p.n p.c)).run Try.prog w' = .ok (.string (str (b ++ q.l))) w' ∧ Below wr.heap.size wr w') := Lib.hid (by
        intro w' hb
        have hI' := hI.below hb
        refine ⟨hI'.l1.cell hp, hI'.l2.cell hq, ?_, hb⟩
        rw [← hpl]
        exact str_at w' _ _ _ _ hpn (hown.row.below hb))
      have HI := Lib.hid hI
      have HO := Lib.hid hown
      have HSEP := Lib.hid hsep
      have HRQ := Lib.hid hrq
      have HP := Lib.hid hp
      have HPN' := Lib.hid hpn
      have HQN' := Lib.hid hqn
      have HPL' := Lib.hid hpl
      have hqn2 : q.n ≤ 1048600 := by omega
      have hpn2 : p.n ≤ 2200000 := by
        have h1 := congrArg List.length hpl
        rw [List.length_append] at h1; omega
      clear hpn hqn hown hsep hrq hI hp hq hpl hpm hqm hpd hql
      obtain ⟨pg, pn, pc, pl⟩ := p
      obtain ⟨qg, qn, qc, ql⟩ := q
      dsimp only at *
      have BD : Hid (Below wr.heap.size wr wr.drew) := Lib.hid ⟨rfl, rfl, rfl, Nat.le_refl _, fun _ _ => rfl⟩
      have hszd : wr.drew.heap.size = wr.heap.size := rfl
      go_wp2
      go_region_held_law (fun w' => w'.cell? ⟨G1, k, none⟩ = some (.slice (some ⟨pg, 0, none⟩) pn pc) ∧ w'.cell? ⟨G2, k, none⟩ = some (.slice (some ⟨qg, 0, none⟩) qn qc) ∧ (convert 22 9 (.slice (some ⟨pg, 0, none⟩) pn pc)).run Try.prog w' = .ok (.string (str (b ++ ql))) w' ∧ Below wr.heap.size wr w')
        (first | exact HK.out _ BD.out | exact HK.out _ (BD.out.alloc (Nat.le_refl _) _) | exact HK.out _ HB9.out | exact HK.out _ HB8.out)
        (first
          | (refine step_app' _ rfl (.tmp 55) (.tmp 56) rfl wr.heap.size (some ⟨wr.drew.heap.size, 0, none⟩) 0 [] 0 rfl rfl (Own.made wr.drew #[] 0 (Nat.le_refl _) (by unfold maxLen; omega) rfl) A c b b.length rfl rfl ((HB.out.drew).alloc _) (by omega) (by simp) ?_
             intro A8 c8 w8 h8 hg8
             have HB8 : Hid (Below wr.heap.size wr w8) := Lib.hid ((BD.out.alloc (Nat.le_refl _) (.cells #[] 5)).grown hg8 (by simp) (by intro k hk; simp [Value.ownBlock] at hk; omega))
             have H8 := Lib.hid h8
             clear h8 hg8)
          | (refine step_app' _ rfl (.tmp 57) (.tmp 61) rfl wr.heap.size A8 c8 b b.length (by first | rfl | simp [Act.eval, Act.put]) rfl H8.out (some ⟨qg, 0, none⟩) qc ql qn (by first | rfl | simp [Act.eval, Act.put]) HQN'.out (HRQ.out.below HB8.out) (by omega) HB8.out.size ?_
             intro A9 c9 w9 h9 hg9
             have HB9 : Hid (Below wr.heap.size wr w9) := Lib.hid (H8.out.grown_below rfl hg9 HB8.out (Nat.le_refl _) HB8.out.size)
             have hs9 : (convert 22 9 (.slice A9 (b.length + qn) c9)).run Try.prog w9 = .ok (.string (str (b ++ ql))) w9 := str_at w9 _ _ _ _ (by rw [List.length_append, HQN'.out]) h9.row
             clear h9 hg9))
      have HI9 : Hid (Inv w s0 gx gy G1 G2 (b ++ [77, 78]) (s ++ [77, 78]) Ps Qs (k + 1) w9) := Lib.hid ((HI.out.below HB9.out).next)
      have HO9 : Hid (Own w9 s0 (some ⟨pg, 0, none⟩) pc pl) := Lib.hid (HO.out.below HB9.out)
      clear HI HO BD HB HK HRQ HB8 H8 hs9 HB9 HPL' HQN' hqn2 hqb
      go_wp2
      go_loopw [12] (fun i wr => ∃ (j : Nat) (X : List UInt8), i = .int .i64 j ∧ j ≤ pn ∧ X.length = pn ∧ Own wr s0 (some ⟨pg, 0, none⟩) pc X ∧ Inv w s0 gx gy G1 G2 (b ++ [77, 78]) (s ++ [77, 78]) Ps Qs (k + 1) wr) (fun i _ => pn - (intOf i).toNat)
      case atStart => exact ⟨0, pl, rfl, by omega, HPN'.out, HO9.out, HI9.out⟩
      case round =>
        obtain ⟨j, X, rfl, hj, hX, hO, hJ⟩ := hrel
        have hc1 := hJ.l1.cell HP.out
        by_cases hlt2 : j < pn
        · obtain ⟨u, hu⟩ : ∃ u, X[j]? = some u := ⟨_, List.getElem?_eq_getElem (by omega)⟩
          have fx := hO.cell hu
          have fz := hO.frozen j
          have HX := Lib.hid hX
          have HO := Lib.hid hO
          have HJ := Lib.hid hJ
          clear hX hu hO hJ
          go_wp2
          go_roundw
          case rel =>
            have gg := grownBy_setCell wr pg j (.int .u8 99)
            refine ⟨j + 1, X.set j 99, by go_num, by omega, by rw [List.length_set]; exact HX.out, HO.out.set_ j 99, HJ.out.store gg ?_ ?_ ?_ ?_ ?_ ?_ ?_⟩
            · omega
            · omega
            · omega
            · omega
            · omega
            · intro p' hp'
              have := HSEP.out p' hp'
              omega
            · intro q' hq'
              have := HB6.out q' hq'
              omega
          case measure => simp [intOf]; omega
        · obtain rfl : j = pn := by omega
          go_wp2
          go_roundw
          case rel => exact ⟨k + 1, by go_num, by omega, hJ⟩
          case measure => simp [intOf]; omega
    · obtain rfl : k = 5 := by omega
      have hbel := hI.bel
      have HIx := Lib.hid hI.rx
      have HIy := Lib.hid hI.ry
      have hr5 := Lib.hid (HR.out.below hbel)
      have hr6 := Lib.hid (HR2.out.below hbel)
      clear hI
      go_wp2_with fail
      refine (kept02_any (some ⟨gx, 0, none⟩) A cx c b wr HIx.out hcx hcx2 hr5.out hcc).mono ?_
      rintro e w3 ⟨rfl, rfl⟩
      go_wp2_with fail
      refine (kept02_any (some ⟨gy, 0, none⟩) A2 cy c2 s wr HIy.out hcy hcy2 hr6.out hcc2).mono ?_
      rintro e w3 ⟨rfl, rfl⟩
      go_wp2_with fail
      refine (known02_any wr).mono ?_
      rintro e v ⟨rfl, hv⟩
      go_wp2
      go_ret
      exact ⟨rfl, below_step hbel hv (Nat.le_refl _)⟩
theorem codePuts_walk (A0 : Option Addr) (c0 : Nat) (l0 : List UInt8) (A1 : Option Addr) (c1 : Nat) (l1 : List UInt8) (a2 : Int) (w : World)
    (r0 : Row w A0 (bs l0)) (h0 : l0.length ≤ c0) (m0 : l0.length ≤ 1048576) (r1 : Row w A1 (bs l1)) (h1 : l1.length ≤ c1) (m1 : l1.length ≤ 1048576) (w2 : (Lit.int .u64 a2).wf = true) :
    Calls Try.prog 4 #[.slice A0 l0.length c0, .slice A1 l1.length c1, .int .u64 a2] w fun e w' => e = .returned (.bool true) ∧ Below w.heap.size w w' := by
  have g2 : 0 ≤ a2 ∧ a2 ≤ 18446744073709551615 := by simpa [Lit.wf, IntKind.min, IntKind.max, IntKind.signed, IntKind.bits] using w2
  obtain ⟨n, rfl⟩ := Int.eq_ofNat_of_zero_le g2.1
  exact codePuts_core A0 A1 c0 c1 n l0 l1 w r0 h0 m0 r1 h1 m1 (by omega)
end Go.Proofs.Yteanmmdlgolljaa
