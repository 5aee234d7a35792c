/-
  The walk of ItemReads: it returns true and changes nothing that was there.
  Conditions: the bytes lie in memory as a list; their number is bounded.
-/
import Derived.Test.YteanmmdlgolljaaItemW6
namespace Go.Proofs.Yteanmmdlgolljaa
open Go.RowKit Go.Sort Go.Lib
set_option linter.unusedVariables false
theorem Own32.le {w : World} {base n c : Nat} {A : Option Addr} {l : List Int} (h : Own32 w base A n c l) : n ≤ c ∧ c ≤ maxLen := by
  rcases h.2 with ⟨hv, hn⟩ | ⟨g, cap, cur, hv, _, _, h1, h2, _⟩
  · injection hv with _ e1 e2; unfold maxLen; omega
  · injection hv with _ e1 e2; omega
/-- What the reading returns, whatever is read. -/
def ReadAny (x : Itm) (ev : Nat) (w : World) (e : Ending) (w' : World) : Prop := ∃ A n c A2 n2 c2, e = .returned (.tuple #[.agg #[.int .u64 (x.key : Int), .slice A n c, .slice A2 n2 c2], .int .i64 (ev : Int)]) ∧ Hid (x.vec.length = n) ∧ Hid (x.note.length = n2) ∧ Own32 w' w.heap.size A n c x.vec ∧ Own w' w.heap.size A2 c2 x.note ∧ Below w.heap.size w w'
def itmOf (r : Option Itm) : Itm := r.getD ⟨0, [], []⟩
def errOf (r : Option Itm) : Nat := if r.isSome then 0 else 4
theorem ReadPost.any {r : Option Itm} {w : World} {e : Ending} {w' : World} (h : ReadPost r w e w') : ReadAny (itmOf r) (errOf r) w e w' := by
  cases r with
  | none => obtain ⟨rfl, hb⟩ := h; exact ⟨none, 0, 0, none, 0, 0, rfl, Lib.hid rfl, Lib.hid rfl, Own32.nil_ _ _, Own.nil_ _ _, hb⟩
  | some x => obtain ⟨A, n, c, A2, n2, c2, rfl, h1, h2, h3, h4, h5⟩ := h; exact ⟨A, n, c, A2, n2, c2, rfl, h1, h2, h3, h4, h5⟩
theorem refsame_eq (x : Itm) (A A2 B B2 : Option Addr) (n n2 m m2 c c2 d d2 : Nat) (w : World) (hr : Row w A (i32s x.vec)) (hr2 : Row w A2 (bs x.note)) (hs : Row w B (i32s x.vec)) (hs2 : Row w B2 (bs x.note))
    (e1 : x.vec.length = n) (e2 : x.note.length = n2) (e3 : x.vec.length = m) (e4 : x.note.length = m2) (h1 : n ≤ 9223372036854775807) :
    Calls Try.prog 45 #[.agg #[.int .u64 (x.key : Int), .slice A n c, .slice A2 n2 c2], .agg #[.int .u64 (x.key : Int), .slice B m d, .slice B2 m2 d2]] w fun e w' => e = .returned (.bool true) ∧ Below w.heap.size w w' := by
  subst e1 e2 e3 e4
  have := refsame_any x x A A2 B B2 c c2 d d2 w hr hr2 hs hs2 h1 h1
  rwa [ItemM.same_refl] at this
set_option maxRecDepth 100000 in
set_option maxHeartbeats 4000000 in
theorem itemReads_walk (A : Option Addr) (c : Nat) (b : List UInt8) (w : World) (hr : Row w A (bs b)) (hcap : b.length ≤ c) (hmx : c ≤ 140737488351232) :
    Calls Try.prog 10 #[.slice A b.length c] w fun e w' => e = .returned (.bool true) ∧ Below w.heap.size w w' := by
  go_enter Try.func10, Try.ntmps10
  by_cases hbig : 25000 < b.length
  · go_wp2_with fail
    refine (known05_any w).mono ?_
    rintro e w1 ⟨rfl, hb⟩
    go_wp2
    go_ret
    exact ⟨rfl, hb⟩
  · go_wp2_with (at_builtin; refine wpl_app _ rfl (.tmp 13) (.tmp 14) rfl w.heap.size (some ⟨w.heap.size, 0, none⟩) 0 [] rfl (Own.made w #[] 0 (Nat.le_refl _) (by unfold maxLen; omega) rfl) A c b rfl (hr.alloc _) ?_ ?_ ?_)
    · simp; omega
    · simp
    intro A1 c1 w1 h1 hg1 _
    have hb1 : Below w.heap.size w w1 := ((Below.refl w.heap.size w).alloc (Nat.le_refl _) (.cells #[] 5)).grown hg1 (by simp) (by intro k hk; simp [Value.ownBlock] at hk; omega)
    have hs1 := hb1.size
    go_wp2_with (at_builtin; refine wpl_app _ rfl (.tmp 15) (.tmp 16) rfl w.heap.size A1 c1 b rfl (h1.alloc _) (some ⟨w1.heap.size, 0, none⟩) 1 [77] rfl (row_lit w1 [77] _ _ _ rfl) ?_ ?_ ?_)
    · simp; omega
    · simp; omega
    intro A2 c2 w2 h2 hg2 _
    obtain ⟨gi, rfl, hge, hgl⟩ := h2.some_ (by simp)
    have hle := h2.le
    simp only [List.length_append, List.length_cons, List.length_nil] at hle
    have hb2 : Below w.heap.size w w2 := (h1.alloc (.cells #[.int .u8 77] 5)).grown_below rfl hg2 (hb1.alloc hs1 _) (Nat.le_refl _) (by simp; omega)
    have hlen : ((b.length : Nat) : Int) ≤ c2 := by omega
    have RI := Lib.hid h2.row
    have hri : Row w2 (some ⟨gi, 0, none⟩) (bs b) := by
      have := h2.row.take b.length
      rwa [← bs_length b, bs_append, List.take_left] at this
    have hrb := hr.below hb2
    unfold maxLen at hle
    have RI0 := Lib.hid h2.row
    have HR2 := Lib.hid hrb
    have HB2 := Lib.hid hb2
    have HGI : Hid (gi < w2.heap.size) := Lib.hid hgl
    clear h1 h2 hg1 hg2 hb1 hs1 hr
    go_wp2_with fail
    refine (itemread_any (some ⟨gi, 0, none⟩) c2 b w2 hri (by omega)).mono fun e w3 h => ?_
    rw [ItemM.readP_eq] at h
    obtain ⟨B1, n1, d1, B2, n2, d2, rfl, hn1, hn2, o1, o2, b3⟩ := h.any
    clear h hri
    have HG : Hid ((itmOf (ItemM.readR b)).note ≠ [] → ∃ g, B2 = some ⟨g, 0, none⟩ ∧ w2.heap.size ≤ g ∧ g < w3.heap.size) := Lib.hid (fun h => o2.some_ h)
    have hb3 := b3
    have RI3 := Lib.hid (RI.out.below b3)
    have hrb3 := hrb.below b3
    have hs3 := b3.size
    obtain ⟨x, hx⟩ : ∃ x, itmOf (ItemM.readR b) = x := ⟨_, rfl⟩
    obtain ⟨ev, hev⟩ : ∃ x, errOf (ItemM.readR b) = x := ⟨_, rfl⟩
    rw [hx] at hn1 hn2 o1 o2 HG ⊢
    rw [hev]
    have HX := Lib.hid hx
    have HEV := Lib.hid hev
    clear hx hev
    go_wp2_with fail
    have ba : Below w3.heap.size w3 (w3.alloc (.cells #[.int .u64 (x.key : Int), .slice B1 n1 d1, .slice B2 n2 d2] 58)) := (Below.refl _ _).alloc (Nat.le_refl _) _
    have V4 := Blk.new w3 58 #[.int .u64 (x.key : Int), .slice B1 n1 d1, .slice B2 n2 d2]
    have o14 := o1.below ba
    have o24 := o2.below ba
    have RI4 := Lib.hid (RI3.out.below ba)
    have hrb4 := hrb3.below ba
    have hb4 := below_step hb3 ba (Nat.le_refl _)
    have hs4 : (w3.alloc (.cells #[.int .u64 (x.key : Int), .slice B1 n1 d1, .slice B2 n2 d2] 58)).heap.size = w3.heap.size + 1 := by simp
    generalize w3.alloc (.cells #[.int .u64 (x.key : Int), .slice B1 n1 d1, .slice B2 n2 d2] 58) = w4 at *
    clear ba o1 o2 RI3 RI hrb3 hrb b3 hb3
    refine (refitemread_any A c b w4 hrb4 hcap (by unfold maxLen; omega) (by omega)).mono fun e w5 h => ?_
    obtain ⟨C1, m1, k1, C2, m2, k2, rfl, hm1, hm2, p1, p2, b5⟩ := h.any
    clear h
    rw [HX.out] at hm1 hm2 p1 p2 ⊢
    rw [HEV.out]
    have V5 := V4.below b5 V4.lt
    have o15 := o14.below b5
    have o25 := o24.below b5
    have RI5 := Lib.hid (RI4.out.below b5)
    have hrb5 := hrb4.below b5
    have hb5 := below_step hb4 b5 (Nat.le_refl _)
    have hs5 := b5.size
    clear V4 o14 o24 RI4 hrb4 b5 hb4
    have z0 := (V5.alloc (.cells #[.int .u64 (x.key : Int), .slice C1 m1 k1, .slice C2 m2 k2] 58)).cell 0
    have z1 := (V5.alloc (.cells #[.int .u64 (x.key : Int), .slice C1 m1 k1, .slice C2 m2 k2] 58)).cell 1
    have z2 := (V5.alloc (.cells #[.int .u64 (x.key : Int), .slice C1 m1 k1, .slice C2 m2 k2] 58)).cell 2
    simp only [List.getElem?_toArray, List.getElem?_cons_zero, List.getElem?_cons_succ] at z0 z1 z2
    go_wp2_with fail
    have ba : Below w5.heap.size w5 (w5.alloc (.cells #[.int .u64 (x.key : Int), .slice C1 m1 k1, .slice C2 m2 k2] 58)) := (Below.refl _ _).alloc (Nat.le_refl _) _
    have V6 := V5.below ba V5.lt
    have o16 := o15.below ba
    have o26 := o25.below ba
    have p16 := p1.below ba
    have p26 := p2.below ba
    have RI6 := Lib.hid (RI5.out.below ba)
    have hrb6 := hrb5.below ba
    have hb6 := below_step hb5 ba (Nat.le_refl _)
    have hs6 := ba.size
    generalize w5.alloc (.cells #[.int .u64 (x.key : Int), .slice C1 m1 k1, .slice C2 m2 k2] 58) = w6 at *
    clear ba o15 o25 RI5 hrb5 hb5 z0 z1 z2 V5 p1 p2
    have hnb : n1 ≤ 9223372036854775807 := by have := o16.le; unfold maxLen at this; omega
    refine (refsame_eq x B1 B2 C1 C2 n1 n2 m1 m2 d1 d2 k1 k2 w6 o16.row o26.row p16.row p26.row hn1.out hn2.out hm1.out hm2.out hnb).mono ?_
    rintro e w7 ⟨rfl, b7⟩
    have V7 := Lib.hid (V6.below b7 V6.lt)
    have o27 := Lib.hid (o26.below b7)
    have RI7 := Lib.hid (RI6.out.below b7)
    have hrb7 := Lib.hid (hrb6.below b7)
    have hb7 := Lib.hid (below_step hb6 b7 (Nat.le_refl _))
    have hs7 := b7.size
    have hnl := o26.le
    clear V6 o16 o26 RI6 hrb6 hb6 b7 p16 p26
    unfold maxLen at hnl
    rw [hn2.out] at hnl
    go_wp2
    go_loopw [8] (fun i wr => ∃ (k : Nat) (Z : List UInt8), i = .int .i64 k ∧ k ≤ n2 ∧ Z.length = n2 ∧ Own wr w2.heap.size B2 d2 Z ∧ Blk wr w3.heap.size 58 #[.int .u64 (x.key : Int), .slice B1 n1 d1, .slice B2 n2 d2] ∧ Below w2.heap.size w2 wr) (fun i _ => n2 - (RowKit.intOf i).toNat)
    case atStart => exact ⟨0, x.note, rfl, by omega, hn2.out, o27.out, V7.out, hb7.out⟩
    case round =>
      obtain ⟨k, Z, rfl, hk, hZ, hO, hV, hbel⟩ := hrel
      have z2 := hV.cell 2
      simp only [List.getElem?_toArray, List.getElem?_cons_zero, List.getElem?_cons_succ] at z2
      by_cases hlt : k < n2
      · obtain ⟨g2, rfl, hg2, hg2'⟩ := hO.some_ (by intro q; rw [q] at hZ; simp at hZ; omega)
        obtain ⟨g3, eg3, hg3, hg3'⟩ := HG.out (by intro q; have := hn2.out; rw [q] at this; simp at this; omega)
        injection eg3 with eg3
        injection eg3 with eg3
        subst eg3
        obtain ⟨u, hu⟩ : ∃ u, Z[k]? = some u := ⟨_, List.getElem?_eq_getElem (by omega)⟩
        have fx := hO.cell hu
        have fz := hO.frozen k
        have xx := xor_u8 u 1
        rw [show (((1 : UInt8).toNat : Nat) : Int) = 1 from rfl] at xx
        obtain ⟨v, hv⟩ : ∃ v, u ^^^ 1 = v := ⟨_, rfl⟩
        rw [hv] at xx
        have HX' := Lib.hid hZ
        have HO := Lib.hid hO
        have HV := Lib.hid hV
        have HQ := Lib.hid hbel
        clear hZ hu hv hO hbel hV
        go_wp2
        go_region
        go_wp2
        go_roundw
        case rel =>
          have gg := grownBy_setCell wr.drew g2 k (.int .u8 (v.toNat : Int))
          have VD : Blk wr.drew w3.heap.size 58 #[.int .u64 (x.key : Int), .slice B1 n1 d1, .slice (some ⟨g2, 0, none⟩) n2 d2] := HV.out
          have QD : Below w2.heap.size w2 wr.drew := ⟨HQ.out.os, HQ.out.tape, HQ.out.output, HQ.out.size, HQ.out.block⟩
          exact ⟨k + 1, Z.set k v, by go_num, by omega, by rw [List.length_set]; exact HX'.out, HO.out.drew.set_ k v, VD.grown gg (by intro q; injection q with q; omega), below_grown QD gg QD.size hg2⟩
        case measure => simp [RowKit.intOf]; omega
      · obtain rfl : k = n2 := by omega
        have hB := HR2.out.below hbel
        have hI := RI0.out.below hbel
        have hIb : Row wr (some ⟨gi, 0, none⟩) (bs b) := by
          have := hI.take b.length
          rwa [← bs_length b, bs_append, List.take_left] at this
        have s1 := run_str wr c hB
        have s2 := run_str wr c2 hIb
        have h77 := hI.byte (k := b.length) (by simp)
        obtain ⟨bq, oq, eq, h77⟩ := h77
        injection eq with eq
        injection eq with e1 e2
        subst e1 e2
        rw [List.getElem_append_right (Nat.le_refl _)] at h77
        simp only [Nat.sub_self, List.getElem_cons_zero, Nat.zero_add] at h77
        have HQ := Lib.hid (below_step HB2.out hbel (Nat.le_refl _))
        clear hB hI hIb hbel hO hV
        go_wp2_with fail
        refine (known05_any wr).mono ?_
        rintro e v ⟨rfl, hv⟩
        go_wp2
        go_ret
        exact ⟨rfl, below_step HQ.out hv (Nat.le_refl _)⟩
end Go.Proofs.Yteanmmdlgolljaa
