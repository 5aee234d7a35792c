/-
  The document's reading of a slotted body.
  Conditions: the bytes lie in memory as a list.
-/
import Derived.Test.YtofbfehpadjbbaaReg5
import Derived.Test.YtofbfehpadjbbaaSltS1
import Derived.Test.YtofbfehpadjbbaaSltS2
import Derived.Test.YtofbfehpadjbbaaSltS3
import Derived.Deep.CutBlock
namespace Go.Proofs.Ytofbfehpadjbbaa
open Go.RowKit Go.Sort Go.Lib
set_option linter.unusedVariables false
set_option linter.unusedSimpArgs false
theorem info_int : (Try.prog.info? 3).map (fun i => (i.zero, i.size, i.bytes)) = some (some (.int .i64 0), 1, 8) := by kernel_rfl
def r22E (k0 k1 : Nat) (A1 : Option Addr) (nz c1 : Nat) (D1 : Option Addr) (cD1 G gr ab ao c : Nat) (l F : List UInt8) (A' : Option Addr) (n' c' : Nat) : List (Nat × Nat × Value) :=
  [(0, 84, (.pointer (some ⟨gr, 1, none⟩))), (1, 85, (.int .i64 4)), (2, 86, (.bool true)), (3, 87, (.bool true)), (4, 88, undef), (5, 89, undef), (6, 90, undef), (7, 91, (.bool true)), (8, 92, (.bool true)), (9, 93, undef), (10, 94, undef), (11, 95, undef), (12, 96, undef), (13, 97, undef), (14, 98, undef), (15, 99, (.bool true))]
def r22N (k0 k1 : Nat) (A1 : Option Addr) (nz c1 : Nat) (D1 : Option Addr) (cD1 G gr ab ao c : Nat) (l F : List UInt8) (A' : Option Addr) (n' c' : Nat) : List (Nat × Nat × Value) :=
  [(0, 84, (.pointer (some ⟨gr, 1, none⟩))), (1, 85, (.int .i64 0)), (2, 86, (.bool false)), (3, 87, (.bool false)), (4, 88, (.agg #[.int .u8 (k0 : Int), .int .u32 (k1 : Int), .slice A1 nz c1, .slice D1 nz cD1])), (5, 89, (.bool false)), (6, 90, (.bool true)), (7, 91, (.bool true)), (8, 92, (.bool true)), (9, 93, undef), (10, 94, undef), (11, 95, undef), (12, 96, undef), (13, 97, undef), (14, 98, undef), (15, 99, (.bool true))]
def r22F (k0 k1 : Nat) (A1 : Option Addr) (nz c1 : Nat) (D1 : Option Addr) (cD1 G gr ab ao c : Nat) (l F : List UInt8) (A' : Option Addr) (n' c' : Nat) : List (Nat × Nat × Value) :=
  [(0, 84, (.pointer (some ⟨gr, 1, none⟩))), (1, 85, (.int .i64 0)), (2, 86, (.bool false)), (3, 87, (.bool false)), (4, 88, (.agg #[.int .u8 (k0 : Int), .int .u32 (k1 : Int), .slice A1 nz c1, .slice D1 nz cD1])), (5, 89, (.bool true)), (6, 90, (.bool false)), (7, 91, (.bool false)), (8, 92, (.bool false)), (9, 93, (.agg #[.int .u8 (k0 : Int), .int .u32 (k1 : Int), .slice A1 nz c1, .slice D1 nz cD1])), (10, 94, (.slice A' n' c')), (11, 95, (.string (str F))), (12, 96, (.slice (some ⟨ab, ao, none⟩) 500 c)), (13, 97, (.string (str l))), (14, 98, (.bool true)), (15, 99, (.bool true))]
def r22T (k0 k1 : Nat) (A1 : Option Addr) (nz c1 : Nat) (D1 : Option Addr) (cD1 G gr ab ao c : Nat) (l F : List UInt8) (A' : Option Addr) (n' c' : Nat) : List (Nat × Nat × Value) :=
  [(0, 84, (.pointer (some ⟨gr, 1, none⟩))), (1, 85, (.int .i64 0)), (2, 86, (.bool false)), (3, 87, (.bool false)), (4, 88, (.agg #[.int .u8 (k0 : Int), .int .u32 (k1 : Int), .slice A1 nz c1, .slice D1 nz cD1])), (5, 89, (.bool true)), (6, 90, (.bool false)), (7, 91, (.bool false)), (8, 92, (.bool false)), (9, 93, (.agg #[.int .u8 (k0 : Int), .int .u32 (k1 : Int), .slice A1 nz c1, .slice D1 nz cD1])), (10, 94, (.slice A' n' c')), (11, 95, (.string (str F))), (12, 96, (.slice (some ⟨ab, ao, none⟩) 500 c)), (13, 97, (.string (str l))), (14, 98, (.bool false)), (15, 99, (.bool false))]
structure FrW (V : World) (A' : Option Addr) (n' : Nat) (F : List UInt8) (b : Bool) (w : World) : Prop where
  bel : Below V.heap.size V w
  f : b = true → Row w A' (bs F) ∧ F.length = n'
theorem FrW.step {V w w' : World} {A' : Option Addr} {n' : Nat} {F : List UInt8} {b : Bool} (h : FrW V A' n' F b w) (hb : Below w.heap.size w w') : FrW V A' n' F b w' := ⟨below_step h.bel hb (Nat.le_refl _), fun q => ⟨(h.f q).1.below hb, (h.f q).2⟩⟩
/-- What is known behind the first loop. -/
structure Rl1 (l : List UInt8) (m : Nat) (w : World) (b1 bl gr G rb : Nat) (k0 k1 : Nat) (Az : Option Addr) (nz cz : Nat) (zs : List Nat) (Bl : List UInt8) (e : Nat) (wc : World) : Prop where
  own : wc.ownsRow b1 3 1 (.slice Az nz cz) nz (zs.map (fun z : Nat => Value.int .i64 (z : Int)))
  rd : RdAt 63 bl wc gr ⟨Bl, e⟩
  st : e = 0 ∧ nz ≤ 247 ∧ zs = SltM.sizes l nz 6 ∧ Bl = l.drop (6 + 2 * nz) ∨ e = 4 ∧ 247 < m
  nz : zs.length = nz ∧ nz ≤ m
  zb : ∀ z ∈ zs, z < 65536
  bG : Blk wc G 26 #[.int .u8 (k0 : Int), .int .u32 (k1 : Int), .slice none 0 0, .slice none 0 0]
  bR : Blk wc rb 26 #[.int .u8 0, .int .u32 0, .slice none 0 0, .slice none 0 0]
  bel : Below w.heap.size w wc
  big : b1 ≤ wc.heap.size
theorem rd_cut {t : TypeId} {bl : Nat} {w : World} {g : Nat} {A : Option Addr} {n c e : Nat} {l : List UInt8} (hB : Blk w g t #[.slice A n c, .int .i64 (e : Int)]) (hl : l.length = n) (hc : n ≤ c) (hn : n ≤ 140737488355328) (hc2 : c ≤ maxLen ∧ ∀ a : Addr, A = some a → a.block = bl) (hrow : Row w A (bs l)) (k : Nat) (hk : k ≤ n) :
    RdAt t bl (w.setCell ⟨g, 0, none⟩ (.slice (if c = k then A else A.map fun x => x.add k) (n - k) (c - k))) g ⟨l.drop k, e⟩ := by
  subst hl
  have h := rd_moved (e := e) hB hc hn hc2 hrow k hk
  by_cases hck : c = k
  · rw [if_pos hck, hck, Nat.sub_self]; rw [hck] at h; exact h.1 rfl
  · rw [if_neg hck]; exact h.2
set_option maxRecDepth 100000 in
set_option maxHeartbeats 8000000 in
theorem refread8_500 (ab ao c : Nat) (l : List UInt8) (w : World) (hr : Row w (some ⟨ab, ao, none⟩) (bs l)) (hn : l.length = 500) (hc5 : 500 ≤ c) (hc : c ≤ maxLen) :
    Calls Try.prog 23 #[.slice (some ⟨ab, ao, none⟩) 500 c] w (RP8w (SltM.readP l) w) := by
  have hcm := Lib.hid hc
  unfold maxLen at hc
  have hab : ab < w.heap.size := by
    rcases hr with e | ⟨b, o, e, hcell⟩
    · have := congrArg List.length e; rw [bs_length, hn] at this; cases this
    · injection e with e; injection e with e1 e2
      subst e1 e2
      obtain ⟨u, hu⟩ : ∃ u, (bs l)[0]? = some u := ⟨_, List.getElem?_eq_getElem (by rw [bs_length]; omega)⟩
      exact World.block_lt_of_cell? w _ (hcell 0 u hu)
  obtain ⟨k0, hk0⟩ : ∃ k0, (l.headD 0).toNat = k0 := ⟨_, rfl⟩
  obtain ⟨k1, hk1⟩ : ∃ k1, CodeM.le ((l.drop 1).take 4) = k1 := ⟨_, rfl⟩
  obtain ⟨m, hm⟩ : ∃ m, ((l.drop 5).headD 0).toNat = m := ⟨_, rfl⟩
  have hm256 : m < 256 := by rw [← hm]; exact UInt8.toNat_lt _
  have hk256 : k0 < 256 := by rw [← hk0]; exact UInt8.toNat_lt _
  have hk1b : k1 < 4294967296 := by
    rw [← hk1]
    have := CodeM.le_lt ((l.drop 1).take 4)
    rw [List.length_take, List.length_drop, hn] at this
    exact this
  have hne : ∀ a, a < 500 → l.drop a ≠ [] := fun a ha e => by have := congrArg List.length e; rw [List.length_drop, hn] at this; simp at this; omega
  have r1 : CodeM.Rd.fixed 1 ⟨l, 0⟩ = (k0, ⟨l.drop 1, 0⟩) := by have := @fixed_at l 0 1 (by omega); rw [List.drop_zero, le_one _ (by have := hne 0 (by omega); rwa [List.drop_zero] at this), hk0] at this; exact this
  have r2 : CodeM.Rd.fixed 4 ⟨l.drop 1, 0⟩ = (k1, ⟨l.drop 5, 0⟩) := by rw [fixed_at (by omega), hk1]
  have r3 : CodeM.Rd.fixed 1 ⟨l.drop 5, 0⟩ = (m, ⟨l.drop 6, 0⟩) := by rw [fixed_at (by omega), le_one _ (hne 5 (by omega)), hm]
  have C1 : Hid (∀ bl g w', RdAt 63 bl w' g ⟨l, 0⟩ → Calls Try.prog 39 #[.pointer (some ⟨g, 0, none⟩), .int .i64 1] w' (RdStep 63 bl g (.int .u64 (k0 : Int)) ⟨l.drop 1, 0⟩ w')) := Lib.hid fun bl g w' h => by have := num_any bl g _ 1 w' h (by omega) (by omega); rwa [r1] at this
  have C2 : Hid (∀ bl g w', RdAt 63 bl w' g ⟨l.drop 1, 0⟩ → Calls Try.prog 39 #[.pointer (some ⟨g, 0, none⟩), .int .i64 4] w' (RdStep 63 bl g (.int .u64 (k1 : Int)) ⟨l.drop 5, 0⟩ w')) := Lib.hid fun bl g w' h => by have := num_any bl g _ 4 w' h (by omega) (by omega); rwa [r2] at this
  have C3 : Hid (∀ bl g w', RdAt 63 bl w' g ⟨l.drop 5, 0⟩ → Calls Try.prog 39 #[.pointer (some ⟨g, 0, none⟩), .int .i64 1] w' (RdStep 63 bl g (.int .u64 (m : Int)) ⟨l.drop 6, 0⟩ w')) := Lib.hid fun bl g w' h => by have := num_any bl g _ 1 w' h (by omega) (by omega); rwa [r3] at this
  have HN := Lib.hid hn
  have H0 := Lib.hid hk0
  have H1 := Lib.hid hk1
  have HM := Lib.hid hm
  clear r1 r2 r3 hn hk0 hk1 hm hne
  go_enter Try.func23, Try.ntmps23
  have hR0 := Blk.new w 26 #[.int .u8 0, .int .u32 0, .slice none 0 0, .slice none 0 0]
  have hB0 : Below w.heap.size w (w.alloc (.cells #[.int .u8 0, .int .u32 0, .slice none 0 0, .slice none 0 0] 26)) := (Below.refl w.heap.size w).alloc (Nat.le_refl _) _
  obtain ⟨rb, hrb⟩ : ∃ rb, w.heap.size = rb := ⟨_, rfl⟩
  go_upto_region 3 with fail
  generalize w.alloc (.cells #[.int .u8 0, .int .u32 0, .slice none 0 0, .slice none 0 0] 26) = W1 at *
  rw [hrb] at hR0 hab
  have HRB := Lib.hid hrb
  clear hrb
  have hg0 := Blk.new W1 63 #[.slice none 0 0, .int .i64 0]
  have f0 := hg0.frozen 0
  have f1 := hg0.frozen 1
  go_upto_region 4 with fail
  clear hg0 f0 f1
  have hg2 := Blk.new W1 63 #[.slice (some ⟨ab, ao, none⟩) 500 c, .int .i64 0]
  have hb2 : Below W1.heap.size W1 (W1.alloc (.cells #[.slice (some ⟨ab, ao, none⟩) 500 c, .int .i64 0] 63)) := (Below.refl W1.heap.size W1).alloc (Nat.le_refl _) _
  generalize W1.alloc (.cells #[.slice (some ⟨ab, ao, none⟩) 500 c, .int .i64 0] 63) = W2 at *
  have hB2 := below_step hB0 hb2 (Nat.le_refl _)
  have hR2 := hR0.below hb2 hR0.lt
  have hrbg := hR0.lt
  obtain ⟨gr, hgr⟩ : ∃ gr, W1.heap.size = gr := ⟨_, rfl⟩
  rw [hgr] at hg2 hrbg ⊢
  have hrd2 : RdAt 63 ab W2 gr ⟨l, 0⟩ := ⟨some ⟨ab, ao, none⟩, 500, c, hg2, HN.out, ⟨hc5, by omega⟩, ⟨hcm.out, fun a ha => by injection ha with ha; rw [← ha]⟩, hr.below hB2⟩
  clear hB0 hR0 hb2 hgr hg2
  have hG0 := Blk.new W2 26 #[.int .u8 0, .int .u32 0, .slice none 0 0, .slice none 0 0]
  go_upto_region 5 with fail
  have hb3 : Below W2.heap.size W2 (W2.alloc (.cells #[.int .u8 0, .int .u32 0, .slice none 0 0, .slice none 0 0] 26)) := (Below.refl W2.heap.size W2).alloc (Nat.le_refl _) _
  generalize W2.alloc (.cells #[.int .u8 0, .int .u32 0, .slice none 0 0, .slice none 0 0] 26) = W3 at *
  have hB3 := below_step hB2 hb3 (Nat.le_refl _)
  have hR3 := hR2.below hb3 hR2.lt
  have hrd3 := hrd2.below hb3
  have hgrG := hrd2.lt
  obtain ⟨G, hG⟩ : ∃ G, W2.heap.size = G := ⟨_, rfl⟩
  rw [hG] at hG0 hgrG ⊢
  clear hB2 hR2 hb3 hG hrd2
  go_wp2_with fail
  refine (C1.out ab gr W3 hrd3).mono ?_
  rintro e w1 ⟨rfl, hrd4, hg4⟩
  have hB4 := below_grown hB3 hg4 hB3.size (by have := HRB.out; omega)
  have hR4 := hR3.grown hg4 (fun q => by injection q with q; omega)
  have hG4 := hG0.grown hg4 (fun q => by injection q with q; omega)
  clear hB3 hR3 hrd3 hg4 hG0
  obtain ⟨y0, y1, y2, y3⟩ := hG4.c4
  have j0 := hG4.frozen 0
  have hw8 : IntKind.u8.wrap (k0 : Int) = (k0 : Int) := by rw [IntKind.wrap_u8]; omega
  go_upto_region 6 with fail
  clear y0 y1 y2 y3 j0 hw8
  have gg := grownBy_setCell w1 G 0 (.int .u8 (k0 : Int))
  have hG5 : Blk (w1.setCell ⟨G, 0, none⟩ (.int .u8 (k0 : Int))) G 26 #[.int .u8 (k0 : Int), .int .u32 0, .slice none 0 0, .slice none 0 0] := hG4.set_ 0 _
  generalize w1.setCell ⟨G, 0, none⟩ (.int .u8 (k0 : Int)) = w2 at *
  have hB5 := below_grown hB4 gg hB4.size (by have := HRB.out; omega)
  have hR5 := hR4.grown gg (fun q => by injection q with q; omega)
  have hrd5 := hrd4.far gg (fun q => by injection q with q; omega) (fun q => by injection q with q; omega)
  clear hB4 hR4 hrd4 gg hG4
  go_wp2_with fail
  refine (C2.out ab gr w2 hrd5).mono ?_
  rintro e w3 ⟨rfl, hrd6, hg6⟩
  have hB6 := below_grown hB5 hg6 hB5.size (by have := HRB.out; omega)
  have hR6 := hR5.grown hg6 (fun q => by injection q with q; omega)
  have hG6 := hG5.grown hg6 (fun q => by injection q with q; omega)
  clear hB5 hR5 hrd5 hg6 hG5
  obtain ⟨y0, y1, y2, y3⟩ := hG6.c4
  have j1 := hG6.frozen 1
  have hw8 : IntKind.u32.wrap (k1 : Int) = (k1 : Int) := by rw [IntKind.wrap_u32]; omega
  go_upto_region 7 with fail
  clear y0 y1 y2 y3 j1 hw8
  have gg := grownBy_setCell w3 G 1 (.int .u32 (k1 : Int))
  have hG7 : Blk (w3.setCell ⟨G, 1, none⟩ (.int .u32 (k1 : Int))) G 26 #[.int .u8 (k0 : Int), .int .u32 (k1 : Int), .slice none 0 0, .slice none 0 0] := hG6.set_ 1 _
  generalize w3.setCell ⟨G, 1, none⟩ (.int .u32 (k1 : Int)) = w4 at *
  have hB7 := below_grown hB6 gg hB6.size (by have := HRB.out; omega)
  have hR7 := hR6.grown gg (fun q => by injection q with q; omega)
  have hrd7 := hrd6.far gg (fun q => by injection q with q; omega) (fun q => by injection q with q; omega)
  clear hB6 hR6 hrd6 gg hG6
  go_wp2_with fail
  refine (C3.out ab gr w4 hrd7).mono ?_
  rintro e V ⟨rfl, hrd, hg8⟩
  have hB := below_grown hB7 hg8 hB7.size (by have := HRB.out; omega)
  have hR := hR7.grown hg8 (fun q => by injection q with q; omega)
  have hG := hG7.grown hg8 (fun q => by injection q with q; omega)
  clear hB7 hR7 hrd7 hg8 hG7 C1 C2 C3
  obtain ⟨b1, hb1⟩ : ∃ b1, V.heap.size = b1 := ⟨_, rfl⟩
  have hGb : G < b1 := by rw [← hb1]; exact hG.lt
  have HB1 := Lib.hid hb1
  clear hb1
  go_upto_block 0 with fail
  go_cut [7, 8] from 25 (fun v7 v8 wc => ∃ (Az : Option Addr) (nz cz : Nat) (zs : List Nat) (Bl : List UInt8) (e : Nat), v7 = .slice Az nz cz ∧ Rl1 l m w b1 ab gr G rb k0 k1 Az nz cz zs Bl e wc ∧ (e = 0 → nz = m))
  case first =>
    go_wp2
    go_loopw [7, 8] (fun v i wr => ∃ (Az : Option Addr) (q cz : Nat) (zs : List Nat) (Bl : List UInt8) (e : Nat), v = .slice Az q cz ∧ i = .int .i64 (q : Int) ∧ Rl1 l m w b1 ab gr G rb k0 k1 Az q cz zs Bl e wr) (fun _ i _ => m - (RowKit.intOf i).toNat)
    case atStart =>
      exact ⟨none, 0, 0, [], l.drop 6, 0, rfl, rfl, ⟨World.ownsRow_nil _ _ _ _, hrd, .inl ⟨rfl, by omega, rfl, rfl⟩, ⟨rfl, by omega⟩, nofun, hG, hR, hB, Nat.le_of_eq HB1.out.symm⟩⟩
    case round =>
      clear hrd hG hR hB
      obtain ⟨Az, q, cz, zs, Bl, e, rfl, rfl, hI⟩ := hrel
      have hqm := hI.nz.2
      obtain ⟨A4, n4, c4, hB4, e1, _⟩ := hI.rd
      have y1 := hB4.cell 1
      simp only [List.getElem?_toArray, List.getElem?_cons_zero, List.getElem?_cons_succ] at y1
      clear hB4 e1
      by_cases hlt : q < m
      · rcases hI.st with ⟨rfl, hq7, hzs, hBl⟩ | ⟨rfl, hm7⟩
        · obtain ⟨v, r', hvr⟩ : ∃ v r', CodeM.Rd.fixed 2 ⟨Bl, 0⟩ = (v, r') := ⟨_, _, rfl⟩
          have hv := CodeM.fixed_lt 2 ⟨Bl, 0⟩
          rw [hvr] at hv
          have hv : v < 65536 := hv
          have hc := num_any ab gr ⟨Bl, 0⟩ 2 wr hI.rd (by omega) (by omega)
          rw [hvr] at hc
          have CN : Hid (Calls Try.prog 39 #[.pointer (some ⟨gr, 0, none⟩), .int .i64 2] wr (RdStep 63 ab gr (.int .u64 (v : Int)) r' wr)) := Lib.hid hc
          have HNX : Hid (r'.e = 0 ∧ q + 1 ≤ 247 ∧ zs ++ [v] = SltM.sizes l (q + 1) 6 ∧ r'.l = l.drop (6 + 2 * (q + 1)) ∨ r'.e = 4 ∧ 247 < m) := Lib.hid (by
            by_cases h7 : q < 247
            · left
              rw [hBl, fixed_at (by rw [HN.out]; omega)] at hvr
              injection hvr with h1 h2
              rw [← h1, ← h2, hzs, SltM.sizes_snoc]
              exact ⟨rfl, by omega, rfl, rfl⟩
            · right
              rw [CodeM.fixed_fail (by rw [hBl, List.length_drop, HN.out]; omega)] at hvr
              injection hvr with h1 h2
              rw [← h2]
              exact ⟨rfl, by omega⟩)
          clear hc hvr hzs hBl
          go_wp2_with fail
          refine CN.out.mono ?_
          rintro e wn ⟨rfl, hrdn, hgn⟩
          have hon := hI.own.kept hgn (by
            cases Az with
            | none => exact .inl rfl
            | some a => exact .inr (fun q => by injection q with q; have := World.ownsRow.lt hI.own a.block rfl; omega))
          have hGn := hI.bG.grown hgn (fun q => by injection q with q; omega)
          have hRn := hI.bR.grown hgn (fun q => by injection q with q; omega)
          have hBn := below_grown hI.bel hgn hI.bel.size (by have := HRB.out; omega)
          have hbig := Nat.le_trans hI.big hgn.size
          have hal : Below wn.heap.size wn (wn.alloc (.cells #[.int .i64 (v : Int)] 3)) := (Below.refl _ _).alloc (Nat.le_refl _) _
          have hon2 := hon.alloc (.cells #[.int .i64 (v : Int)] 3)
          have hwv : IntKind.i64.wrap (v : Int) = (v : Int) := by rw [IntKind.wrap_i64]; omega
          have hzlen := hI.nz.1
          have HZL := Lib.hid hzlen
          have hzb := hI.zb
          clear CN hI y1 hzlen
          obtain ⟨i0, hi0, hz0, hz1, hz2⟩ := info_parts info_int
          go_wp2_with (at_builtin; refine wpl_append _ rfl (.tmp 35) (.tmp 38) _ rfl b1 3 i0 _ 1 8 Try.underlying66 hi0 hz0 hz1 hz2 rfl (by omega) _ q (zs.map (fun z : Nat => Value.int .i64 (z : Int))) rfl hon2 (some ⟨wn.heap.size, 0, none⟩) 1 1 [.int .i64 (v : Int)] rfl rfl (row_new wn _ _ _ _ rfl) (by intro u hu; rw [List.mem_singleton] at hu; subst hu; rfl) (by unfold maxLen; omega) (by omega) (by simp; omega) ?_)
          intro A' c' wf h1 h2 h3
          have hrow : ∀ j, (Value.slice Az q cz).ownBlock = some j → b1 ≤ j := fun j hj => (World.ownsRow.lt hon j hj).1
          have hrdf := (hrdn.below hal).far h2 (fun q => by have := hrow _ q; omega) (fun q => by have := hrow _ q; omega)
          have hGf := (hGn.alloc (.cells #[.int .i64 (v : Int)] 3)).grown h2 (fun q => by have := hrow _ q.symm; omega)
          have hRf := (hRn.alloc (.cells #[.int .i64 (v : Int)] 3)).grown h2 (fun q => by have := hrow _ q.symm; omega)
          have hBf := (below_step hBn hal (Nat.le_refl _)).grown h2 (by have := hBn.size; simp; omega) (fun j hj => by have := hrow j hj; have := HRB.out; omega)
          have hbf : b1 ≤ wf.heap.size := Nat.le_trans hbig (Nat.le_trans hal.size h2.size)
          clear hon2 hon hrdn hGn hRn hBn hal h2 h3 hbig hrow
          go_wp2
          go_roundw
          case rel => exact ⟨A', q + 1, c', zs ++ [v], r'.l, r'.e, rfl, by go_num, ⟨by rw [List.map_append]; exact h1, hrdf, HNX.out, ⟨by rw [List.length_append, HZL.out]; rfl, by omega⟩, (by
            intro z hz
            rcases List.mem_append.1 hz with hz | hz
            · exact hzb z hz
            · rw [List.mem_singleton] at hz; subst hz; exact hv), hGf, hRf, hBf, hbf⟩⟩
          case measure => simp [RowKit.intOf]; omega
        · have h40 : ((4 : Int) == 0) = false := rfl
          go_wp2
          go_meet
          case rel => exact ⟨Az, q, cz, zs, Bl, 4, rfl, hI, fun h => by omega⟩
      · have hqm2 : q = m := by omega
        have HQM := Lib.hid hqm2
        clear hqm2
        go_wp2
        go_meet
        case rel => exact ⟨Az, q, cz, zs, Bl, e, rfl, hI, fun _ => HQM.out⟩
  case rest =>
    clear hrd hG hR hB
    obtain ⟨Az, nz, cz, zs, Bl0, e, rfl, hI, hez⟩ := hcut
    have hnz : nz ≤ m := hI.nz.2
    have HZL := Lib.hid hI.nz.1
    have hzb := hI.zb
    have HST := Lib.hid hI.st
    have HEZ := Lib.hid hez
    have hAz : ∀ x : Addr, Az = some x → (x.block < wc.heap.size ∧ x.block ≠ G) ∧ (x.block ≠ gr ∧ b1 ≤ x.block) := fun x hx => by
      subst hx
      have := World.ownsRow.lt hI.own x.block rfl
      have := hI.big
      omega
    obtain ⟨b0, hb0⟩ : ∃ b0, wc.heap.size = b0 := ⟨_, rfl⟩
    have hbb : b1 ≤ b0 := by rw [← hb0]; exact hI.big
    rw [hb0] at hAz
    have HB0 := Lib.hid hb0
    clear hez hb0
    go_wp2
    go_loopw [9] (fun i wr => ∃ (k : Nat) (A1 : Option Addr) (c1 : Nat) (D1 : Option Addr) (cD1 : Nat) (fl : List Bool) (ps : List Sl) (Bl : List UInt8), i = .int .i64 (k : Int) ∧ k ≤ nz ∧ Hid (SltM.parseB zs Bl0 = SltM.restB zs k Bl fl (ps.map Sl.l)) ∧ RdAt 63 ab wr gr ⟨Bl, e⟩ ∧ SltM.sum (ps.map Sl.l) + Bl.length ≤ Bl0.length ∧
      Blk wr G 26 #[.int .u8 (k0 : Int), .int .u32 (k1 : Int), .slice A1 k c1, .slice D1 k cD1] ∧ OwnP wr b0 G A1 k c1 D1 k cD1 fl ps ∧ Row wr Az (zs.map (fun z : Nat => Value.int .i64 (z : Int))) ∧ Blk wr rb 26 #[.int .u8 0, .int .u32 0, .slice none 0 0, .slice none 0 0] ∧ Below w.heap.size w wr ∧ b0 ≤ wr.heap.size) (fun i _ => nz - (RowKit.intOf i).toNat)
    case atStart =>
      exact ⟨0, none, 0, none, 0, [], [], Bl0, rfl, by omega, Lib.hid (SltM.restB_start zs Bl0).symm, hI.rd, Nat.le_of_eq (Nat.zero_add _), hI.bG, ⟨World.ownsRow_nil _ _ _ _, World.ownsRow_nil _ _ _ _, nofun, nofun, nofun, nofun⟩, Row.of_own hI.own, hI.bR, hI.bel, Nat.le_of_eq HB0.out.symm⟩
    case round =>
      clear hI
      obtain ⟨k, A1, c1, D1, cD1, fl, ps, Bl, rfl, hk, hpar, hrd, hsum, hGr, hown, hzr, hRr, hbel, hb0r⟩ := hrel
      by_cases hlt : k < nz
      · obtain ⟨z, hz⟩ : ∃ z, zs[k]? = some z := ⟨_, List.getElem?_eq_getElem (by rw [HZL.out]; exact hlt)⟩
        have hzl : z < 65536 := hzb z (List.mem_of_getElem? hz)
        obtain ⟨gz, oz, rfl, hzcell⟩ := row_any hzr (k := k) (u := .int .i64 (z : Int)) (by rw [List.getElem?_map, hz]; rfl)
        obtain ⟨⟨hzlt, hzG⟩, hzgr, hzb1⟩ := hAz _ rfl
        simp only at hzlt hzG hzgr hzb1
        obtain ⟨B, nB, cB, hBr, e1, ⟨e2, e2'⟩, ⟨e3, e4⟩, e5⟩ := hrd
        have hrcell := hBr.cell 0
        simp only [List.getElem?_toArray, List.getElem?_cons_zero, List.getElem?_cons_succ] at hrcell e1 e5
        obtain ⟨y, hy⟩ : ∃ y, z - 1 = y := ⟨_, rfl⟩
        have hmax : max ((z : Int) - 1) (0 : Int) = (y : Int) := by omega
        have hyl : y < 65536 := by omega
        have HY := Lib.hid hy
        have HZ := Lib.hid hz
        have E1 := Lib.hid e1
        clear hy hz e1
        by_cases h5 : nB < y
        · have HP : Hid (SltM.readP l = none) := Lib.hid (by
            rcases HST.out with ⟨h1, h2, h3, h4⟩ | ⟨h1, h2⟩
            · have hnm := HEZ.out h1
              subst hnm
              refine SltM.readP_refnone HN.out HM.out h2 ?_
              rw [← h3, ← h4, hpar.out]
              exact SltM.restB_none HZ.out (by rw [HY.out, E1.out]; exact h5)
            · exact SltM.readP_many HM.out h2)
          have f0 := hRr.frozen 0
          have f1 := hRr.frozen 1
          have f2 := hRr.frozen 2
          have f3 := hRr.frozen 3
          obtain ⟨x0, x1, x2, x3⟩ := hRr.c4
          go_wp2
          refine ret_cell rfl rb #[.int .u8 0, .int .u32 0, .slice none 0 0, .slice none 0 0] _ rfl (hRr.set4 _ _ _ _) Try.underlying26 rfl (by kernel_rfl) rfl ?_
          rw [HP.out]
          exact ⟨rfl, hbel.grown (grown4 _ _ _ _ _ _) hbel.size (fun q hq => by injection hq with hq; have := HRB.out; omega)⟩
        · go_upto_region 19 with fail
          refine wp_named fun a0 ha0 => ?_
          have z5 : a0.tmps.getD 5 undef = .pointer (some ⟨G, 0, none⟩) := by rw [ha0.out]; rfl
          have z7 : a0.tmps.getD 7 undef = .slice (some ⟨gz, oz, none⟩) nz cz := by rw [ha0.out]; rfl
          have z9 : a0.tmps.getD 9 undef = .int .i64 (k : Int) := by rw [ha0.out]; rfl
          have hsz0 : a0.tmps.size = 102 := by rw [ha0.out]; rfl
          refine wp_region_invB _ (by kernel_rfl) (fun L a wv => ∃ g3 A2 c2, PIF a0 [58, 59, 60, 61, 62, 63, 64, 65, 66, 67] (cgP G A1 k c1 gz oz nz cz z g3 A2 c2) L a ∧ CgW b0 G wr k0 k1 A1 k c1 D1 cD1 fl ps z g3 A2 c2 (L 1) (L 7) (L 8) (L 10) wv) (by kernel_rfl) ?_ ?_ ?_
          · exact ⟨0, none, 0, PIF.start _ _ _, nofun, nofun, Keep.drew _ _ _, hb0r, fun _ => ⟨rfl, rfl, rfl, Nat.le_refl _, fun _ _ => rfl⟩, fun _ => hGr, nofun, nofun, nofun⟩
          rotate_left
          · refine ⟨?_, ?_, ?_, ?_, ?_, ?_, ?_, ?_, ?_, ?_, ?_, trivial⟩
            · intro L a w1 hI hi hd
              obtain ⟨g3, A2, c2, hp, hw⟩ := hI
              have t5 := hp.at_ 5 _ rfl z5
              have t5' := t5
              rw [Array.getD_eq_getD_getElem?] at t5'
              exact rstep_valW (wanted_none rfl _) (.pointer (some ⟨G, 2, none⟩)) w1 (by go_simp) ⟨g3, A2, c2, (hp.put 0 58 (.pointer (some ⟨G, 2, none⟩)) (by simp [cgP]) (by simp [cgP]) rfl (by rw [hsz0]; decide)), hw⟩
            · intro L a w1 hI hi hd
              obtain ⟨g3, A2, c2, hp, hw⟩ := hI
              simp [Region.binds] at hd
              have e0 := hp.pu (0, 58, (.pointer (some ⟨G, 2, none⟩))) (by simp [cgP]) (by simp [hd])
              simp only at e0
              have f0 : a.tmps[58]?.getD undef = (.pointer (some ⟨G, 2, none⟩)) := by rw [← Array.getD_eq_getD_getElem?]; exact e0
              have hi : L 1 = false := hi
              have hG := hw.zz (hw.no10 (hw.no8 hi))
              obtain ⟨y0, y1, y2, y3⟩ := hG.c4
              exact rstep_valW (wanted_none rfl _) (.slice A1 k c1) w1 (by go_simp) ⟨g3, A2, c2, (hp.put 1 59 (.slice A1 k c1) (by simp [cgP]) (by simp [cgP]) rfl (by rw [hsz0]; decide)), hw.at1⟩
            · intro L a w1 hI hi hd
              obtain ⟨g3, A2, c2, hp, hw⟩ := hI
              have t7 := hp.at_ 7 _ rfl z7
              have t7' := t7
              rw [Array.getD_eq_getD_getElem?] at t7'
              exact rstep_valW (wanted_none rfl _) (.slice (some ⟨gz, oz, none⟩) nz cz) w1 (by go_simp) ⟨g3, A2, c2, (hp.put 2 60 (.slice (some ⟨gz, oz, none⟩) nz cz) (by simp [cgP]) (by simp [cgP]) rfl (by rw [hsz0]; decide)), hw⟩
            · intro L a w1 hI hi hd
              obtain ⟨g3, A2, c2, hp, hw⟩ := hI
              have t9 := hp.at_ 9 _ rfl z9
              have t9' := t9
              rw [Array.getD_eq_getD_getElem?] at t9'
              exact rstep_valW (wanted_none rfl _) (.int .i64 (k : Int)) w1 (by go_simp) ⟨g3, A2, c2, (hp.put 3 61 (.int .i64 (k : Int)) (by simp [cgP]) (by simp [cgP]) rfl (by rw [hsz0]; decide)), hw⟩
            · intro L a w1 hI hi hd
              obtain ⟨g3, A2, c2, hp, hw⟩ := hI
              simp [Region.binds] at hd
              have e2 := hp.pu (2, 60, (.slice (some ⟨gz, oz, none⟩) nz cz)) (by simp [cgP]) (by simp [hd])
              simp only at e2
              have f2 : a.tmps[60]?.getD undef = (.slice (some ⟨gz, oz, none⟩) nz cz) := by rw [← Array.getD_eq_getD_getElem?]; exact e2
              have e3 := hp.pu (3, 61, (.int .i64 (k : Int))) (by simp [cgP]) (by simp [hd])
              simp only at e3
              have f3 : a.tmps[61]?.getD undef = (.int .i64 (k : Int)) := by rw [← Array.getD_eq_getD_getElem?]; exact e3
              exact rstep_valW (wanted_none rfl _) (.pointer (some ⟨gz, oz + k, none⟩)) w1 (by go_simp) ⟨g3, A2, c2, (hp.put 4 62 (.pointer (some ⟨gz, oz + k, none⟩)) (by simp [cgP]) (by simp [cgP]) rfl (by rw [hsz0]; decide)), hw⟩
            · intro L a w1 hI hi hd
              obtain ⟨g3, A2, c2, hp, hw⟩ := hI
              simp [Region.binds] at hd
              have e4 := hp.pu (4, 62, (.pointer (some ⟨gz, oz + k, none⟩))) (by simp [cgP]) (by simp [hd])
              simp only at e4
              have f4 : a.tmps[62]?.getD undef = (.pointer (some ⟨gz, oz + k, none⟩)) := by rw [← Array.getD_eq_getD_getElem?]; exact e4
              have hzc := hw.kp.cell hzcell hzlt hzG
              exact rstep_valW (wanted_none rfl _) (.int .i64 (z : Int)) w1 (by go_simp) ⟨g3, A2, c2, (hp.put 5 63 (.int .i64 (z : Int)) (by simp [cgP]) (by simp [cgP]) rfl (by rw [hsz0]; decide)), hw⟩
            · intro L a w1 hI hi hd
              obtain ⟨g3, A2, c2, hp, hw⟩ := hI
              simp [Region.binds] at hd
              have e5 := hp.pu (5, 63, (.int .i64 (z : Int))) (by simp [cgP]) (by simp [hd])
              simp only at e5
              have f5 : a.tmps[63]?.getD undef = (.int .i64 (z : Int)) := by rw [← Array.getD_eq_getD_getElem?]; exact e5
              exact rstep_valW (wanted_none rfl _) (.bool (decide (0 < z))) w1 (by go_simp) ⟨g3, A2, c2, (hp.put 6 64 (.bool (decide (0 < z))) (by simp [cgP]) (by simp [cgP]) rfl (by rw [hsz0]; decide)), hw⟩
            · intro L a w1 hI hi hd
              obtain ⟨g3, A2, c2, hp, hw⟩ := hI
              simp [Region.binds] at hd
              have e6 := hp.pu (6, 64, (.bool (decide (0 < z)))) (by simp [cgP]) (by simp [hd])
              simp only at e6
              have f6 : a.tmps[64]?.getD undef = (.bool (decide (0 < z))) := by rw [← Array.getD_eq_getD_getElem?]; exact e6
              have hi : L 7 = false := hi
              refine rstep_valW (wanted_none rfl _) (.slice (some ⟨w1.heap.size, 0, none⟩) 1 1) (w1.alloc (.cells #[.bool (decide (0 < z))] 4)) (by go_simp) ⟨w1.heap.size, A2, c2, PIF.put (PIF.swap (p2 := (cgP G A1 k c1 gz oz nz cz z w1.heap.size A2 c2)) hp (by intro q hq hL; simp only [cgP, List.mem_cons, List.not_mem_nil, or_false] at hq; rcases hq with rfl | rfl | rfl | rfl | rfl | rfl | rfl | rfl | rfl | rfl <;> first | (simp [cgP]; done) | (exfalso; simp_all))) 7 65 (.slice (some ⟨w1.heap.size, 0, none⟩) 1 1) (by simp [cgP]) (by simp [cgP]) rfl (by rw [hsz0]; decide), ?_⟩
              exact hw.at7 hi
            · intro L a w1 hI hi hd
              obtain ⟨g3, A2, c2, hp, hw⟩ := hI
              simp [Region.binds] at hd
              have e1 := hp.pu (1, 59, (.slice A1 k c1)) (by simp [cgP]) (by simp [hd])
              simp only at e1
              have f1 : a.tmps[59]?.getD undef = (.slice A1 k c1) := by rw [← Array.getD_eq_getD_getElem?]; exact e1
              have e7 := hp.pu (7, 65, (.slice (some ⟨g3, 0, none⟩) 1 1)) (by simp [cgP]) (by simp [hd])
              simp only at e7
              have f7 : a.tmps[65]?.getD undef = (.slice (some ⟨g3, 0, none⟩) 1 1) := by rw [← Array.getD_eq_getD_getElem?]; exact e7
              have hi : L 8 = false := hi
              have hown2 := hown.below (hw.bwr hi)
              have hrow := hw.f7 (by simp [hd]) hi
              obtain ⟨i0, hi0, hz0, hz1, hz2⟩ := info_parts info_bool
              refine rstep_wp rfl (wp_append_row w1 (.tmp 59) (.tmp 65) _ rfl b0 4 i0 _ 1 1 Try.underlying23 hi0 hz0 hz1 hz2 rfl (by omega) (.slice A1 k c1) k (fl.map .bool) e1 hown2.fu (some ⟨g3, 0, none⟩) 1 1 [.bool (decide (0 < z))] e7 rfl hrow (flags_one [decide (0 < z)]) (by unfold maxLen; omega) (by omega) (Nat.le_trans hw.hb hw.kp.size) fun A' c' w2 h1 h2 h3 => ?_)
              refine ⟨g3, A', c', PIF.put (PIF.swap (p2 := (cgP G A1 k c1 gz oz nz cz z g3 A' c')) hp (by intro q hq hL; simp only [cgP, List.mem_cons, List.not_mem_nil, or_false] at hq; rcases hq with rfl | rfl | rfl | rfl | rfl | rfl | rfl | rfl | rfl | rfl <;> first | (simp [cgP]; done) | (exfalso; simp_all))) 8 66 (.slice A' (k + 1) c') (by simp [cgP]) (by simp [cgP]) rfl (by rw [hsz0]; decide), ?_⟩
              exact hw.at8 hown hi (by simp [hd]) (by simp [hd]) h1 h2 h3
            · intro L a w1 hI hi hd
              obtain ⟨g3, A2, c2, hp, hw⟩ := hI
              have t5 := hp.at_ 5 _ rfl z5
              have t5' := t5
              rw [Array.getD_eq_getD_getElem?] at t5'
              exact rstep_valW (wanted_none rfl _) (.pointer (some ⟨G, 2, none⟩)) w1 (by go_simp) ⟨g3, A2, c2, (hp.put 9 67 (.pointer (some ⟨G, 2, none⟩)) (by simp [cgP]) (by simp [cgP]) rfl (by rw [hsz0]; decide)), hw⟩
            · intro L a w1 hI hi hd
              obtain ⟨g3, A2, c2, hp, hw⟩ := hI
              simp [Region.binds] at hd
              have e8 := hp.pu (8, 66, (.slice A2 (k + 1) c2)) (by simp [cgP]) (by simp [hd])
              simp only at e8
              have f8 : a.tmps[66]?.getD undef = (.slice A2 (k + 1) c2) := by rw [← Array.getD_eq_getD_getElem?]; exact e8
              have e9 := hp.pu (9, 67, (.pointer (some ⟨G, 2, none⟩))) (by simp [cgP]) (by simp [hd])
              simp only at e9
              have f9 : a.tmps[67]?.getD undef = (.pointer (some ⟨G, 2, none⟩)) := by rw [← Array.getD_eq_getD_getElem?]; exact e9
              have hi : L 10 = false := hi
              have h8 : L 8 = true := by simp [hd]
              have hG := hw.zz hi
              obtain ⟨y0, y1, y2, y3⟩ := hG.c4
              have k2 := hG.frozen 2
              refine rstep_skip rfl (w1.setCell ⟨G, 2, none⟩ (.slice A2 (k + 1) c2)) (by go_simp) ⟨g3, A2, c2, (hp.skip 10 undef (by simp [cgP])), ?_⟩
              exact hw.at10 hi h8
          rintro L a X ⟨g3, Af, cf, hp, hw⟩ hL
          have hGX := hw.zn (hL 10 (by simp))
          have hoX := hw.fin (hL 8 (by simp))
          have hkX := hw.kp
          rw [hp.eq]
          refine of_assigns (P := Try.prog) _ _ _ _ ?_
          rw [ha0.out]
          simp only [asgs, List.map]
          generalize a.tmps.getD 58 undef = u58
          generalize a.tmps.getD 59 undef = u59
          generalize a.tmps.getD 60 undef = u60
          generalize a.tmps.getD 61 undef = u61
          generalize a.tmps.getD 62 undef = u62
          generalize a.tmps.getD 63 undef = u63
          generalize a.tmps.getD 64 undef = u64
          generalize a.tmps.getD 65 undef = u65
          generalize a.tmps.getD 66 undef = u66
          generalize a.tmps.getD 67 undef = u67
          clear hp hw hL ha0 z5 z7 z9 hsz0
          clear a0 a L g3
          have hbrX := hkX.blk hBr (by omega) (by omega)
          have hzX := hkX.row hzr (fun x hx => by injection hx with hx; subst hx; exact ⟨hzlt, hzG⟩)
          have hRX := hkX.blk hRr (by omega) (by omega)
          have hBX := hbel.trans (hkX.to_below (by have := HRB.out; omega) (by have := HRB.out; omega))
          have hrX := hkX.row e5 (fun x hx => by have := e4 x hx; omega)
          have hbX : b0 ≤ X.heap.size := Nat.le_trans hb0r hkX.size
          clear hBr hzr hRr hbel e5 hkX hGr hown hzcell hrcell hb0r
          have hrcell := hbrX.cell 0
          simp only [List.getElem?_toArray, List.getElem?_cons_zero, List.getElem?_cons_succ] at hrcell
          have hrlt : gr < b0 := by omega
          have hrG : gr ≠ G := by omega
          obtain ⟨x, hx⟩ : ∃ x, Bl.take y = x := ⟨_, rfl⟩
          have hx2 : Row X B (bs x) := by
            have h := hrX.take y
            rw [← hx]
            unfold bs at h ⊢
            rw [List.map_take]
            exact h
          have hxl : Hid (x.length = y) := Lib.hid (by rw [← hx, List.length_take, E1.out]; omega)
          have HX := Lib.hid hx
          clear hx
          have hown := hoX
          have hyc : y ≤ cB := by omega
          go_upto_region 20 with fail
          refine wp_named fun a0 ha0 => ?_
          have z4 : a0.tmps.getD 4 undef = .pointer (some ⟨gr, 0, none⟩) := by rw [ha0.out]; rfl
          have z5 : a0.tmps.getD 5 undef = .pointer (some ⟨G, 0, none⟩) := by rw [ha0.out]; rfl
          have z10 : a0.tmps.getD 10 undef = .int .i64 (y : Int) := by rw [ha0.out]; rfl
          have hsz0 : a0.tmps.size = 102 := by rw [ha0.out]; rfl
          refine wp_region_invB _ (by kernel_rfl) (fun L a wv => ∃ g2 B1 c3 g3 D2 c2, PIF a0 [68, 69, 70, 71, 72, 73, 74, 75, 76, 77, 78] (chP G D1 k cD1 gr B nB cB y g2 B1 c3 g3 D2 c2) L a ∧ ChW b0 G X k0 k1 Af (k + 1) cf D1 k cD1 (fl ++ [decide (0 < z)]) ps x y g2 B1 c3 g3 D2 c2 (L 1) (L 2) (L 7) (L 8) (L 9) (L 11) wv) (by kernel_rfl) ?_ ?_ ?_
          · exact ⟨0, none, 0, 0, none, 0, PIF.start _ _ _, nofun, nofun, nofun, nofun, Keep.drew _ _ _, Nat.le_refl _, hbX, by omega, fun _ => ⟨rfl, rfl, rfl, Nat.le_refl _, fun _ _ => rfl⟩, fun _ => hGX, nofun, nofun, nofun, nofun, nofun⟩
          rotate_left
          · refine ⟨?_, ?_, ?_, ?_, ?_, ?_, ?_, ?_, ?_, ?_, ?_, ?_, trivial⟩
            · intro L a w1 hI hi hd
              obtain ⟨g2, B1, c3, g3, D2, c2, hp, hw⟩ := hI
              have t5 := hp.at_ 5 _ rfl z5
              have t5' := t5
              rw [Array.getD_eq_getD_getElem?] at t5'
              exact rstep_valW (wanted_none rfl _) (.pointer (some ⟨G, 3, none⟩)) w1 (by go_simp) ⟨g2, B1, c3, g3, D2, c2, (hp.put 0 68 (.pointer (some ⟨G, 3, none⟩)) (by simp [chP]) (by simp [chP]) rfl (by rw [hsz0]; decide)), hw⟩
            · intro L a w1 hI hi hd
              obtain ⟨g2, B1, c3, g3, D2, c2, hp, hw⟩ := hI
              simp [Region.binds] at hd
              have e0 := hp.pu (0, 68, (.pointer (some ⟨G, 3, none⟩))) (by simp [chP]) (by simp [hd])
              simp only at e0
              have f0 : a.tmps[68]?.getD undef = (.pointer (some ⟨G, 3, none⟩)) := by rw [← Array.getD_eq_getD_getElem?]; exact e0
              have hi : L 1 = false := hi
              have hG := hw.zz (hw.no11 (hw.no9 hi))
              obtain ⟨y0, y1, y2, y3⟩ := hG.c4
              exact rstep_valW (wanted_none rfl _) (.slice D1 k cD1) w1 (by go_simp) ⟨g2, B1, c3, g3, D2, c2, (hp.put 1 69 (.slice D1 k cD1) (by simp [chP]) (by simp [chP]) rfl (by rw [hsz0]; decide)), hw.at1⟩
            · intro L a w1 hI hi hd
              obtain ⟨g2, B1, c3, g3, D2, c2, hp, hw⟩ := hI
              have hi : L 2 = false := hi
              refine rstep_valW (wanted_none rfl _) (.slice (some ⟨w1.heap.size, 0, none⟩) 0 0) (w1.alloc (.cells #[] 5)) (by go_simp) ⟨w1.heap.size, B1, c3, g3, D2, c2, PIF.put (PIF.swap (p2 := (chP G D1 k cD1 gr B nB cB y w1.heap.size B1 c3 g3 D2 c2)) hp (by intro q hq hL; simp only [chP, List.mem_cons, List.not_mem_nil, or_false] at hq; rcases hq with rfl | rfl | rfl | rfl | rfl | rfl | rfl | rfl | rfl | rfl | rfl <;> first | (simp [chP]; done) | (exfalso; simp_all))) 2 70 (.slice (some ⟨w1.heap.size, 0, none⟩) 0 0) (by simp [chP]) (by simp [chP]) rfl (by rw [hsz0]; decide), ?_⟩
              exact hw.at2 hi
            · intro L a w1 hI hi hd
              obtain ⟨g2, B1, c3, g3, D2, c2, hp, hw⟩ := hI
              have t4 := hp.at_ 4 _ rfl z4
              have t4' := t4
              rw [Array.getD_eq_getD_getElem?] at t4'
              exact rstep_valW (wanted_none rfl _) (.pointer (some ⟨gr, 0, none⟩)) w1 (by go_simp) ⟨g2, B1, c3, g3, D2, c2, (hp.put 3 71 (.pointer (some ⟨gr, 0, none⟩)) (by simp [chP]) (by simp [chP]) rfl (by rw [hsz0]; decide)), hw⟩
            · intro L a w1 hI hi hd
              obtain ⟨g2, B1, c3, g3, D2, c2, hp, hw⟩ := hI
              simp [Region.binds] at hd
              have e3 := hp.pu (3, 71, (.pointer (some ⟨gr, 0, none⟩))) (by simp [chP]) (by simp [hd])
              simp only at e3
              have f3 : a.tmps[71]?.getD undef = (.pointer (some ⟨gr, 0, none⟩)) := by rw [← Array.getD_eq_getD_getElem?]; exact e3
              have hrc := hw.kp.cell hrcell hrlt hrG
              exact rstep_valW (wanted_none rfl _) (.slice B nB cB) w1 (by go_simp) ⟨g2, B1, c3, g3, D2, c2, (hp.put 4 72 (.slice B nB cB) (by simp [chP]) (by simp [chP]) rfl (by rw [hsz0]; decide)), hw⟩
            · intro L a w1 hI hi hd
              obtain ⟨g2, B1, c3, g3, D2, c2, hp, hw⟩ := hI
              have t10 := hp.at_ 10 _ rfl z10
              have t10' := t10
              rw [Array.getD_eq_getD_getElem?] at t10'
              exact rstep_valW (wanted_none rfl _) (.int .i64 (y : Int)) w1 (by go_simp) ⟨g2, B1, c3, g3, D2, c2, (hp.put 5 73 (.int .i64 (y : Int)) (by simp [chP]) (by simp [chP]) rfl (by rw [hsz0]; decide)), hw⟩
            · intro L a w1 hI hi hd
              obtain ⟨g2, B1, c3, g3, D2, c2, hp, hw⟩ := hI
              simp [Region.binds] at hd
              have e4 := hp.pu (4, 72, (.slice B nB cB)) (by simp [chP]) (by simp [hd])
              simp only at e4
              have f4 : a.tmps[72]?.getD undef = (.slice B nB cB) := by rw [← Array.getD_eq_getD_getElem?]; exact e4
              have e5 := hp.pu (5, 73, (.int .i64 (y : Int))) (by simp [chP]) (by simp [hd])
              simp only at e5
              have f5 : a.tmps[73]?.getD undef = (.int .i64 (y : Int)) := by rw [← Array.getD_eq_getD_getElem?]; exact e5
              exact rstep_valW (wanted_none rfl _) (.slice B y cB) w1 (by go_simp) ⟨g2, B1, c3, g3, D2, c2, (hp.put 6 74 (.slice B y cB) (by simp [chP]) (by simp [chP]) rfl (by rw [hsz0]; decide)), hw⟩
            · intro L a w1 hI hi hd
              obtain ⟨g2, B1, c3, g3, D2, c2, hp, hw⟩ := hI
              simp [Region.binds] at hd
              have e2 := hp.pu (2, 70, (.slice (some ⟨g2, 0, none⟩) 0 0)) (by simp [chP]) (by simp [hd])
              simp only at e2
              have f2 : a.tmps[70]?.getD undef = (.slice (some ⟨g2, 0, none⟩) 0 0) := by rw [← Array.getD_eq_getD_getElem?]; exact e2
              have e6 := hp.pu (6, 74, (.slice B y cB)) (by simp [chP]) (by simp [hd])
              simp only at e6
              have f6 : a.tmps[74]?.getD undef = (.slice B y cB) := by rw [← Array.getD_eq_getD_getElem?]; exact e6
              have hi : L 7 = false := hi
              have n8 := hw.no8 hi
              have n9 := hw.no9' n8
              have hO := hw.f2 hd.1 hi
              have hrx := hx2.below (hw.bwr n9)
              obtain ⟨i0, hi0, hz0, hz1, hz2⟩ := info_parts info_u8
              refine rstep_wp rfl (wp_append_row w1 (.tmp 70) (.tmp 74) _ rfl X.heap.size 5 i0 _ 1 1 Try.underlying27 hi0 hz0 hz1 hz2 rfl (by omega) (.slice (some ⟨g2, 0, none⟩) 0 0) 0 [] e2 hO B y cB (bs x) e6 (by rw [bs_length, hxl.out]; omega) hrx (bs_one x) (by unfold maxLen; omega) (by omega) hw.gr fun B' c' w2 h1 h2 h3 => ?_)
              simp only [Nat.zero_add, List.nil_append] at h1 h3 ⊢
              refine ⟨g2, B', c', g3, D2, c2, PIF.put (PIF.swap (p2 := (chP G D1 k cD1 gr B nB cB y g2 B' c' g3 D2 c2)) hp (by intro q hq hL; simp only [chP, List.mem_cons, List.not_mem_nil, or_false] at hq; rcases hq with rfl | rfl | rfl | rfl | rfl | rfl | rfl | rfl | rfl | rfl | rfl <;> first | (simp [chP]; done) | (exfalso; simp_all))) 7 75 (.slice B' y c') (by simp [chP]) (by simp [chP]) rfl (by rw [hsz0]; decide), ?_⟩
              exact hw.at7 hi hd.1 hxl.out h1 h2
            · intro L a w1 hI hi hd
              obtain ⟨g2, B1, c3, g3, D2, c2, hp, hw⟩ := hI
              simp [Region.binds] at hd
              have e7 := hp.pu (7, 75, (.slice B1 y c3)) (by simp [chP]) (by simp [hd])
              simp only at e7
              have f7 : a.tmps[75]?.getD undef = (.slice B1 y c3) := by rw [← Array.getD_eq_getD_getElem?]; exact e7
              have hi : L 8 = false := hi
              refine rstep_valW (wanted_none rfl _) (.slice (some ⟨w1.heap.size, 0, none⟩) 1 1) (w1.alloc (.cells #[.slice B1 y c3] 27)) (by go_simp) ⟨g2, B1, c3, w1.heap.size, D2, c2, PIF.put (PIF.swap (p2 := (chP G D1 k cD1 gr B nB cB y g2 B1 c3 w1.heap.size D2 c2)) hp (by intro q hq hL; simp only [chP, List.mem_cons, List.not_mem_nil, or_false] at hq; rcases hq with rfl | rfl | rfl | rfl | rfl | rfl | rfl | rfl | rfl | rfl | rfl <;> first | (simp [chP]; done) | (exfalso; simp_all))) 8 76 (.slice (some ⟨w1.heap.size, 0, none⟩) 1 1) (by simp [chP]) (by simp [chP]) rfl (by rw [hsz0]; decide), ?_⟩
              exact hw.at8 hi (by simp [hd])
            · intro L a w1 hI hi hd
              obtain ⟨g2, B1, c3, g3, D2, c2, hp, hw⟩ := hI
              simp [Region.binds] at hd
              have e1 := hp.pu (1, 69, (.slice D1 k cD1)) (by simp [chP]) (by simp [hd])
              simp only at e1
              have f1 : a.tmps[69]?.getD undef = (.slice D1 k cD1) := by rw [← Array.getD_eq_getD_getElem?]; exact e1
              have e8 := hp.pu (8, 76, (.slice (some ⟨g3, 0, none⟩) 1 1)) (by simp [chP]) (by simp [hd])
              simp only at e8
              have f8 : a.tmps[76]?.getD undef = (.slice (some ⟨g3, 0, none⟩) 1 1) := by rw [← Array.getD_eq_getD_getElem?]; exact e8
              have hi : L 9 = false := hi
              have q8 : L 8 = true := by simp [hd]
              have q1 : L 1 = true := by simp [hd]
              have hr9 := hw.f8 q8 hi
              have hOP := hown.below (hw.bwr hi)
              obtain ⟨i0, hi0, hz0, hz1, hz2⟩ := info_parts info_sl
              refine rstep_wp rfl (wp_append_row w1 (.tmp 69) (.tmp 76) _ rfl b0 27 i0 _ 1 24 Try.underlying24 hi0 hz0 hz1 hz2 rfl (by omega) (.slice D1 k cD1) k (ps.map Sl.val) e1 hOP.li (some ⟨g3, 0, none⟩) 1 1 [.slice B1 y c3] e8 rfl hr9 (by intro u hu; rw [List.mem_singleton] at hu; subst hu; rfl) (by unfold maxLen; omega) (by omega) (Nat.le_trans hw.hb hw.kp.size) fun D' c' w2 h1 h2 h3 => ?_)
              refine ⟨g2, B1, c3, g3, D', c', PIF.put (PIF.swap (p2 := (chP G D1 k cD1 gr B nB cB y g2 B1 c3 g3 D' c')) hp (by intro q hq hL; simp only [chP, List.mem_cons, List.not_mem_nil, or_false] at hq; rcases hq with rfl | rfl | rfl | rfl | rfl | rfl | rfl | rfl | rfl | rfl | rfl <;> first | (simp [chP]; done) | (exfalso; simp_all))) 9 77 (.slice D' (k + 1) c') (by simp [chP]) (by simp [chP]) rfl (by rw [hsz0]; decide), ?_⟩
              exact hw.at9 hown hi q1 q8 h1 h2 h3
            · intro L a w1 hI hi hd
              obtain ⟨g2, B1, c3, g3, D2, c2, hp, hw⟩ := hI
              have t5 := hp.at_ 5 _ rfl z5
              have t5' := t5
              rw [Array.getD_eq_getD_getElem?] at t5'
              exact rstep_valW (wanted_none rfl _) (.pointer (some ⟨G, 3, none⟩)) w1 (by go_simp) ⟨g2, B1, c3, g3, D2, c2, (hp.put 10 78 (.pointer (some ⟨G, 3, none⟩)) (by simp [chP]) (by simp [chP]) rfl (by rw [hsz0]; decide)), hw⟩
            · intro L a w1 hI hi hd
              obtain ⟨g2, B1, c3, g3, D2, c2, hp, hw⟩ := hI
              simp [Region.binds] at hd
              have e9 := hp.pu (9, 77, (.slice D2 (k + 1) c2)) (by simp [chP]) (by simp [hd])
              simp only at e9
              have f9 : a.tmps[77]?.getD undef = (.slice D2 (k + 1) c2) := by rw [← Array.getD_eq_getD_getElem?]; exact e9
              have e10 := hp.pu (10, 78, (.pointer (some ⟨G, 3, none⟩))) (by simp [chP]) (by simp [hd])
              simp only at e10
              have f10 : a.tmps[78]?.getD undef = (.pointer (some ⟨G, 3, none⟩)) := by rw [← Array.getD_eq_getD_getElem?]; exact e10
              have hi : L 11 = false := hi
              have q9 : L 9 = true := by simp [hd]
              have hG := hw.zz hi
              obtain ⟨y0, y1, y2, y3⟩ := hG.c4
              have k3 := hG.frozen 3
              refine rstep_skip rfl (w1.setCell ⟨G, 3, none⟩ (.slice D2 (k + 1) c2)) (by go_simp) ⟨g2, B1, c3, g3, D2, c2, (hp.skip 11 undef (by simp [chP])), ?_⟩
              exact hw.at11 hi q9
          rintro L a Y ⟨g2, B1, c3, g3, D2, c2', hp, hw⟩ hL
          have hGY := hw.zn (hL 11 (by simp))
          have hoY := hw.fin (hL 9 (by simp))
          have hkY := hw.kp
          rw [hp.eq]
          refine of_assigns (P := Try.prog) _ _ _ _ ?_
          rw [ha0.out]
          simp only [asgs, List.map]
          generalize a.tmps.getD 68 undef = u68
          generalize a.tmps.getD 69 undef = u69
          generalize a.tmps.getD 70 undef = u70
          generalize a.tmps.getD 71 undef = u71
          generalize a.tmps.getD 72 undef = u72
          generalize a.tmps.getD 73 undef = u73
          generalize a.tmps.getD 74 undef = u74
          generalize a.tmps.getD 75 undef = u75
          generalize a.tmps.getD 76 undef = u76
          generalize a.tmps.getD 77 undef = u77
          generalize a.tmps.getD 78 undef = u78
          clear hp hw hL ha0 z4 z5 z10 hsz0
          clear a0 a L g2 g3
          have hbrY := hkY.blk hbrX (by omega) (by omega)
          have hzY := hkY.row hzX (fun x hx => by injection hx with hx; subst hx; exact ⟨hzlt, hzG⟩)
          have hRY := hkY.blk hRX (by omega) (by omega)
          have hBY := hBX.trans (hkY.to_below (by have := HRB.out; omega) (by have := HRB.out; omega))
          have hrY := hkY.row hrX (fun x hx => by have := e4 x hx; omega)
          have hbY : b0 ≤ Y.heap.size := Nat.le_trans hbX hkY.size
          clear hbrX hzX hRX hBX hrX hbX hkY hrcell hGX hoX hown hx2
          have y0 := hbrY.cell 0
          simp only [List.getElem?_toArray, List.getElem?_cons_zero, List.getElem?_cons_succ] at y0
          have j0 := hbrY.frozen 0
          have hrdc := rd_cut hbrY E1.out e2 e2' ⟨e3, e4⟩ hrY y (by omega)
          obtain ⟨B2, hB2⟩ : ∃ B2, (if cB = y then B else B.map fun x => x.add y) = B2 := ⟨_, rfl⟩
          rw [hB2] at hrdc
          have gg := grownBy_setCell Y gr 0 (.slice B2 (nB - y) (cB - y))
          have hparn : Hid (SltM.parseB zs Bl0 = SltM.restB zs (k + 1) (Bl.drop y) (fl ++ [decide (0 < z)]) ((ps ++ [(⟨B1, y, c3, x⟩ : Sl)]).map Sl.l)) := Lib.hid (by
            have h := SltM.restB_step (fl := fl) (ds := ps.map Sl.l) HZ.out (show ¬ Bl.length < z - 1 by rw [HY.out, E1.out]; exact h5)
            rw [HY.out, HX.out] at h
            rw [hpar.out, h, List.map_append]
            rfl)
          have hsumn : SltM.sum ((ps ++ [(⟨B1, y, c3, x⟩ : Sl)]).map Sl.l) + (Bl.drop y).length ≤ Bl0.length := by
            rw [List.map_append, SltM.sum_append, List.length_drop]
            have h1 : SltM.sum ([(⟨B1, y, c3, x⟩ : Sl)].map Sl.l) = y := by show SltM.sum [x] = y; rw [SltM.sum_cons, SltM.sum_nil, hxl.out]; rfl
            have h2 := E1.out
            omega
          have hGn := hGY.grown gg (fun q => by injection q with q; omega)
          have hon := hoY.kept gg (fun a ha q => by injection q with q; have := (hoY.fu.blk ha).1; omega) (fun a ha q => by injection q with q; have := (hoY.li.blk ha).1; omega) (fun p hp => (hoY.each p hp).2.2.imp id fun h4 a ha q => by injection q with q; have := (h4 a ha).1.1; omega)
          have hzn := row_grown hzY gg (fun x hx q => by injection hx with hx; subst hx; injection q with q; have q : gr = gz := q; omega)
          have hRn := hRY.grown gg (fun q => by injection q with q; omega)
          have hBn := hBY.grown gg hBY.size (fun q hq => by injection hq with hq; have := HRB.out; omega)
          have hbn : b0 ≤ (Y.setCell ⟨gr, 0, none⟩ (.slice B2 (nB - y) (cB - y))).heap.size := Nat.le_trans hbY gg.size
          go_wp2
          go_roundw
          case rel => exact ⟨k + 1, Af, cf, D2, c2', fl ++ [decide (0 < z)], ps ++ [⟨B1, y, c3, x⟩], Bl.drop y, by go_num, by omega, hparn, hrdc, hsumn, hGn, hon, hzn, hRn, hBn, hbn⟩
          case measure => simp [RowKit.intOf]; omega
      · obtain rfl : nz = k := by omega
        have hpe : SltM.parseB zs Bl0 = some (fl, ps.map Sl.l, Bl) := hpar.out.trans (SltM.restB_end (by rw [HZL.out]; exact Nat.le_refl _) _ _ _)
        obtain ⟨B, nB, cB, hbr, e1, ⟨e2, e2'⟩, ⟨e3, e4⟩, e5⟩ := hrd
        clear e1 e2 e2' e3 e4 e5 hzr
        have hlr := hr.below hbel
        obtain ⟨F, hF⟩ : ∃ F, SltM.form ⟨k0, k1, fl, ps.map Sl.l⟩ = F := ⟨_, rfl⟩
        have HF := Lib.hid hF
        clear hF
        rcases HST.out with ⟨h1, h2, h3, h4⟩ | ⟨h1, h2⟩
        · subst h1
          have hnm := HEZ.out rfl
          have HP0 : Hid ((SltM.May ⟨k0, k1, fl, ps.map Sl.l⟩ ∧ SltM.form ⟨k0, k1, fl, ps.map Sl.l⟩ = l → SltM.readP l = some ⟨k0, k1, fl, ps.map Sl.l⟩) ∧ (¬ (SltM.May ⟨k0, k1, fl, ps.map Sl.l⟩ ∧ SltM.form ⟨k0, k1, fl, ps.map Sl.l⟩ = l) → SltM.readP l = none)) := Lib.hid (by
            subst hnm
            have h := SltM.readP_ref HN.out H0.out H1.out HM.out h2 (by rw [← h3, ← h4]; exact hpe)
            exact ⟨fun hc => by rw [h, if_pos hc], fun hc => by rw [h, if_neg hc]⟩)
          have hBl : Bl0.length ≤ 500 := by rw [h4, List.length_drop, HN.out]; omega
          have hsum2 : SltM.sum (ps.map Sl.l) ≤ 500 := by omega
          clear hnm h3 h4 hsum hpe
          obtain ⟨s, hs⟩ : ∃ s : Slt, (⟨k0, k1, fl, ps.map Sl.l⟩ : Slt) = s := ⟨_, rfl⟩
          rw [hs] at HP0 HF
          have hat : SltAt wr A1 nz c1 D1 nz cD1 s := by rw [← hs]; exact hown.at_ (s := ⟨k0, k1, fl, ps.map Sl.l⟩) rfl
          have hma : Hid (∀ w', Below wr.heap.size wr w' → Calls Try.prog 25 #[.agg #[.int .u8 (k0 : Int), .int .u32 (k1 : Int), .slice A1 nz c1, .slice D1 nz cD1]] w' (MayPost s w')) := Lib.hid fun w' hb => by
            have h := refmay8_any s A1 nz c1 D1 nz cD1 w' (hat.below hb) (by rw [← hs]; show SltM.sum (ps.map Sl.l) ≤ _; omega) (by omega) (by omega)
            rw [← hs] at h ⊢
            exact h
          have hfo : Hid (SltM.May s → ∀ w', Below wr.heap.size wr w' → Calls Try.prog 26 #[.agg #[.int .u8 (k0 : Int), .int .u32 (k1 : Int), .slice A1 nz c1, .slice D1 nz cD1]] w' (NewB F w')) := Lib.hid fun hm w' hb => by
            have h := refform8_any s A1 nz c1 D1 nz cD1 w' (hat.below hb) hm (by rw [← hs]; exact hk256) (by rw [← hs]; exact hk1b)
            rw [HF.out] at h
            rw [← hs] at h
            exact h
          rw [HF.out] at HP0
          have HS := Lib.hid hs
          clear hs hat
          by_cases hm : SltM.May s
          · have HMY := Lib.hid hm
            have hfo := Lib.hid (hfo.out hm)
            by_cases hfl : F = l
            · have HP : Hid (SltM.readP l = some s) := Lib.hid (HP0.out.1 ⟨hm, hfl⟩)
              have HFL := Lib.hid hfl
              clear hfl hm
              go_upto_region 22 with fail
              refine wp_named fun a0 ha0 => ?_
              have z0 : a0.tmps.getD 0 undef = .slice (some ⟨ab, ao, none⟩) 500 c := by rw [ha0.out]; rfl
              have z4 : a0.tmps.getD 4 undef = .pointer (some ⟨gr, 0, none⟩) := by rw [ha0.out]; rfl
              have z5 : a0.tmps.getD 5 undef = .pointer (some ⟨G, 0, none⟩) := by rw [ha0.out]; rfl
              have hsz0 : a0.tmps.size = 102 := by rw [ha0.out]; rfl
              refine wp_region_invB _ (by kernel_rfl) (fun L a wv => ∃ A' n' c', PIF a0 [84, 85, 86, 87, 88, 89, 90, 91, 92, 93, 94, 95, 96, 97, 98, 99] (r22T k0 k1 A1 nz c1 D1 cD1 G gr ab ao c l F A' n' c') L a ∧ FrW wr A' n' F (L 10) wv) (by kernel_rfl) ?_ ?_ ?_
              · exact ⟨none, 0, 0, PIF.start _ _ _, ⟨rfl, rfl, rfl, Nat.le_refl _, fun _ _ => rfl⟩, nofun⟩
              rotate_left
              · refine ⟨?_, ?_, ?_, ?_, ?_, ?_, ?_, ?_, ?_, ?_, ?_, ?_, ?_, ?_, ?_, ?_, trivial⟩
                · intro L a w1 hI hi hd
                  obtain ⟨A', n', c', hp, hw⟩ := hI
                  have t4 := hp.at_ 4 _ rfl z4
                  have t4' := t4
                  rw [Array.getD_eq_getD_getElem?] at t4'
                  exact rstep_valW (wanted_none rfl _) (.pointer (some ⟨gr, 1, none⟩)) w1 (by go_simp) ⟨A', n', c', (hp.put 0 84 (.pointer (some ⟨gr, 1, none⟩)) (by simp [r22T]) (by simp [r22T]) rfl (by rw [hsz0]; decide)), hw⟩
                · intro L a w1 hI hi hd
                  obtain ⟨A', n', c', hp, hw⟩ := hI
                  simp [Region.binds] at hd
                  have e0 := hp.pu (0, 84, (.pointer (some ⟨gr, 1, none⟩))) (by simp [r22T]) (by simp [hd])
                  simp only at e0
                  have f0 : a.tmps[84]?.getD undef = (.pointer (some ⟨gr, 1, none⟩)) := by rw [← Array.getD_eq_getD_getElem?]; exact e0
                  have hec := (hbr.below hw.bel hbr.lt).cell 1
                  simp only [List.getElem?_toArray, List.getElem?_cons_zero, List.getElem?_cons_succ] at hec
                  exact rstep_valW (wanted_none rfl _) (.int .i64 0) w1 (by go_simp) ⟨A', n', c', (hp.put 1 85 (.int .i64 0) (by simp [r22T]) (by simp [r22T]) rfl (by rw [hsz0]; decide)), hw⟩
                · intro L a w1 hI hi hd
                  obtain ⟨A', n', c', hp, hw⟩ := hI
                  simp [Region.binds] at hd
                  have e1 := hp.pu (1, 85, (.int .i64 0)) (by simp [r22T]) (by simp [hd])
                  simp only at e1
                  have f1 : a.tmps[85]?.getD undef = (.int .i64 0) := by rw [← Array.getD_eq_getD_getElem?]; exact e1
                  exact rstep_valW (wanted_none rfl _) (.bool false) w1 (by go_simp) ⟨A', n', c', (hp.put 2 86 (.bool false) (by simp [r22T]) (by simp [r22T]) rfl (by rw [hsz0]; decide)), hw⟩
                · intro L a w1 hI hi hd
                  obtain ⟨A', n', c', hp, hw⟩ := hI
                  simp [Region.binds] at hd
                  have e2 := hp.pu (2, 86, (.bool false)) (by simp [r22T]) (by simp [hd])
                  simp only at e2
                  have f2 : a.tmps[86]?.getD undef = (.bool false) := by rw [← Array.getD_eq_getD_getElem?]; exact e2
                  exact rstep_valW (wanted_none rfl _) (.bool false) w1 (by go_simp) ⟨A', n', c', (hp.put 3 87 (.bool false) (by simp [r22T]) (by simp [r22T]) rfl (by rw [hsz0]; decide)), hw⟩
                · intro L a w1 hI hi hd
                  obtain ⟨A', n', c', hp, hw⟩ := hI
                  simp [Region.binds] at hd
                  have e3 := hp.pu (3, 87, (.bool false)) (by simp [r22T]) (by simp [hd])
                  simp only at e3
                  have f3 : a.tmps[87]?.getD undef = (.bool false) := by rw [← Array.getD_eq_getD_getElem?]; exact e3
                  have t5 := hp.at_ 5 _ rfl z5
                  have t5' := t5
                  rw [Array.getD_eq_getD_getElem?] at t5'
                  obtain ⟨y0, y1, y2, y3⟩ := (hGr.below hw.bel hGr.lt).c4
                  exact rstep_valW (wanted_of 3 87 false rfl rfl e3) (.agg #[.int .u8 (k0 : Int), .int .u32 (k1 : Int), .slice A1 nz c1, .slice D1 nz cD1]) w1 (by go_simp) ⟨A', n', c', (hp.put 4 88 (.agg #[.int .u8 (k0 : Int), .int .u32 (k1 : Int), .slice A1 nz c1, .slice D1 nz cD1]) (by simp [r22T]) (by simp [r22T]) rfl (by rw [hsz0]; decide)), hw⟩
                · intro L a w1 hI hi hd
                  obtain ⟨A', n', c', hp, hw⟩ := hI
                  simp [Region.binds] at hd
                  have e3 := hp.pu (3, 87, (.bool false)) (by simp [r22T]) (by simp [hd])
                  simp only at e3
                  have f3 : a.tmps[87]?.getD undef = (.bool false) := by rw [← Array.getD_eq_getD_getElem?]; exact e3
                  have e4 := hp.pu (4, 88, (.agg #[.int .u8 (k0 : Int), .int .u32 (k1 : Int), .slice A1 nz c1, .slice D1 nz cD1])) (by simp [r22T]) (by simp [hd])
                  simp only at e4
                  have f4 : a.tmps[88]?.getD undef = (.agg #[.int .u8 (k0 : Int), .int .u32 (k1 : Int), .slice A1 nz c1, .slice D1 nz cD1]) := by rw [← Array.getD_eq_getD_getElem?]; exact e4
                  have hi : L 5 = false := hi
                  refine rstep_callW (wanted_of 3 87 false rfl rfl e3) 25 #[.agg #[.int .u8 (k0 : Int), .int .u32 (k1 : Int), .slice A1 nz c1, .slice D1 nz cD1]] (by go_simp) ?_
                  refine (hma.out w1 hw.bel).mono ?_
                  rintro e w2 ⟨r, rfl, hr, hb⟩
                  obtain rfl : r = true := by exact hr.out.2 HMY.out
                  exact ⟨A', n', c', hp.put 5 89 (.bool true) (by simp [r22T]) (by simp [r22T]) rfl (by rw [hsz0]; decide), hw.step hb⟩
                · intro L a w1 hI hi hd
                  obtain ⟨A', n', c', hp, hw⟩ := hI
                  simp [Region.binds] at hd
                  have e3 := hp.pu (3, 87, (.bool false)) (by simp [r22T]) (by simp [hd])
                  simp only at e3
                  have f3 : a.tmps[87]?.getD undef = (.bool false) := by rw [← Array.getD_eq_getD_getElem?]; exact e3
                  have e5 := hp.pu (5, 89, (.bool true)) (by simp [r22T]) (by simp [hd])
                  simp only at e5
                  have f5 : a.tmps[89]?.getD undef = (.bool true) := by rw [← Array.getD_eq_getD_getElem?]; exact e5
                  exact rstep_valW (wanted_of 3 87 false rfl rfl e3) (.bool false) w1 (by go_simp) ⟨A', n', c', (hp.put 6 90 (.bool false) (by simp [r22T]) (by simp [r22T]) rfl (by rw [hsz0]; decide)), hw⟩
                · intro L a w1 hI hi hd
                  obtain ⟨A', n', c', hp, hw⟩ := hI
                  simp [Region.binds] at hd
                  have e3 := hp.pu (3, 87, (.bool false)) (by simp [r22T]) (by simp [hd])
                  simp only at e3
                  have f3 : a.tmps[87]?.getD undef = (.bool false) := by rw [← Array.getD_eq_getD_getElem?]; exact e3
                  have e6 := hp.pu (6, 90, (.bool false)) (by simp [r22T]) (by simp [hd])
                  simp only at e6
                  have f6 : a.tmps[90]?.getD undef = (.bool false) := by rw [← Array.getD_eq_getD_getElem?]; exact e6
                  exact rstep_valW (wanted_none rfl _) (.bool false) w1 (by go_simp) ⟨A', n', c', (hp.put 7 91 (.bool false) (by simp [r22T]) (by simp [r22T]) rfl (by rw [hsz0]; decide)), hw⟩
                · intro L a w1 hI hi hd
                  obtain ⟨A', n', c', hp, hw⟩ := hI
                  simp [Region.binds] at hd
                  have e7 := hp.pu (7, 91, (.bool false)) (by simp [r22T]) (by simp [hd])
                  simp only at e7
                  have f7 : a.tmps[91]?.getD undef = (.bool false) := by rw [← Array.getD_eq_getD_getElem?]; exact e7
                  exact rstep_valW (wanted_none rfl _) (.bool false) w1 (by go_simp) ⟨A', n', c', (hp.put 8 92 (.bool false) (by simp [r22T]) (by simp [r22T]) rfl (by rw [hsz0]; decide)), hw⟩
                · intro L a w1 hI hi hd
                  obtain ⟨A', n', c', hp, hw⟩ := hI
                  simp [Region.binds] at hd
                  have e8 := hp.pu (8, 92, (.bool false)) (by simp [r22T]) (by simp [hd])
                  simp only at e8
                  have f8 : a.tmps[92]?.getD undef = (.bool false) := by rw [← Array.getD_eq_getD_getElem?]; exact e8
                  have t5 := hp.at_ 5 _ rfl z5
                  have t5' := t5
                  rw [Array.getD_eq_getD_getElem?] at t5'
                  obtain ⟨y0, y1, y2, y3⟩ := (hGr.below hw.bel hGr.lt).c4
                  exact rstep_valW (wanted_of 8 92 false rfl rfl e8) (.agg #[.int .u8 (k0 : Int), .int .u32 (k1 : Int), .slice A1 nz c1, .slice D1 nz cD1]) w1 (by go_simp) ⟨A', n', c', (hp.put 9 93 (.agg #[.int .u8 (k0 : Int), .int .u32 (k1 : Int), .slice A1 nz c1, .slice D1 nz cD1]) (by simp [r22T]) (by simp [r22T]) rfl (by rw [hsz0]; decide)), hw⟩
                · intro L a w1 hI hi hd
                  obtain ⟨A', n', c', hp, hw⟩ := hI
                  simp [Region.binds] at hd
                  have e8 := hp.pu (8, 92, (.bool false)) (by simp [r22T]) (by simp [hd])
                  simp only at e8
                  have f8 : a.tmps[92]?.getD undef = (.bool false) := by rw [← Array.getD_eq_getD_getElem?]; exact e8
                  have e9 := hp.pu (9, 93, (.agg #[.int .u8 (k0 : Int), .int .u32 (k1 : Int), .slice A1 nz c1, .slice D1 nz cD1])) (by simp [r22T]) (by simp [hd])
                  simp only at e9
                  have f9 : a.tmps[93]?.getD undef = (.agg #[.int .u8 (k0 : Int), .int .u32 (k1 : Int), .slice A1 nz c1, .slice D1 nz cD1]) := by rw [← Array.getD_eq_getD_getElem?]; exact e9
                  have hi : L 10 = false := hi
                  refine rstep_callW (wanted_of 8 92 false rfl rfl e8) 26 #[.agg #[.int .u8 (k0 : Int), .int .u32 (k1 : Int), .slice A1 nz c1, .slice D1 nz cD1]] (by go_simp) ?_
                  refine (hfo.out w1 hw.bel).mono ?_
                  rintro e w2 ⟨A2, n2, c2, rfl, hn2, hO, hb⟩
                  exact ⟨A2, n2, c2, PIF.put (PIF.swap (p2 := (r22T k0 k1 A1 nz c1 D1 cD1 G gr ab ao c l F A2 n2 c2)) hp (by intro q hq hL; simp only [r22T, List.mem_cons, List.not_mem_nil, or_false] at hq; rcases hq with rfl | rfl | rfl | rfl | rfl | rfl | rfl | rfl | rfl | rfl | rfl | rfl | rfl | rfl | rfl | rfl <;> first | (simp [r22T]; done) | exact absurd hL (by show ¬ L 10 = true; rw [hi]; simp))) 10 94 (.slice A2 n2 c2) (by simp [r22T]) (by simp [r22T]) rfl (by rw [hsz0]; decide), below_step hw.bel hb (Nat.le_refl _), fun _ => ⟨hO.row, hn2.out⟩⟩
                · intro L a w1 hI hi hd
                  obtain ⟨A', n', c', hp, hw⟩ := hI
                  simp [Region.binds] at hd
                  have e8 := hp.pu (8, 92, (.bool false)) (by simp [r22T]) (by simp [hd])
                  simp only at e8
                  have f8 : a.tmps[92]?.getD undef = (.bool false) := by rw [← Array.getD_eq_getD_getElem?]; exact e8
                  have e10 := hp.pu (10, 94, (.slice A' n' c')) (by simp [r22T]) (by simp [hd])
                  simp only at e10
                  have f10 : a.tmps[94]?.getD undef = (.slice A' n' c') := by rw [← Array.getD_eq_getD_getElem?]; exact e10
                  obtain ⟨hrf, hnf⟩ := hw.f (by simp [hd])
                  have s11 := str_len w1 A' n' c' F hnf hrf
                  exact rstep_valW (wanted_of 8 92 false rfl rfl e8) (.string (str F)) w1 (by go_simp) ⟨A', n', c', (hp.put 11 95 (.string (str F)) (by simp [r22T]) (by simp [r22T]) rfl (by rw [hsz0]; decide)), hw⟩
                · intro L a w1 hI hi hd
                  obtain ⟨A', n', c', hp, hw⟩ := hI
                  simp [Region.binds] at hd
                  have e8 := hp.pu (8, 92, (.bool false)) (by simp [r22T]) (by simp [hd])
                  simp only at e8
                  have f8 : a.tmps[92]?.getD undef = (.bool false) := by rw [← Array.getD_eq_getD_getElem?]; exact e8
                  have t0 := hp.at_ 0 _ rfl z0
                  have t0' := t0
                  rw [Array.getD_eq_getD_getElem?] at t0'
                  exact rstep_valW (wanted_of 8 92 false rfl rfl e8) (.slice (some ⟨ab, ao, none⟩) 500 c) w1 (by go_simp) ⟨A', n', c', (hp.put 12 96 (.slice (some ⟨ab, ao, none⟩) 500 c) (by simp [r22T]) (by simp [r22T]) rfl (by rw [hsz0]; decide)), hw⟩
                · intro L a w1 hI hi hd
                  obtain ⟨A', n', c', hp, hw⟩ := hI
                  simp [Region.binds] at hd
                  have e8 := hp.pu (8, 92, (.bool false)) (by simp [r22T]) (by simp [hd])
                  simp only at e8
                  have f8 : a.tmps[92]?.getD undef = (.bool false) := by rw [← Array.getD_eq_getD_getElem?]; exact e8
                  have e12 := hp.pu (12, 96, (.slice (some ⟨ab, ao, none⟩) 500 c)) (by simp [r22T]) (by simp [hd])
                  simp only at e12
                  have f12 : a.tmps[96]?.getD undef = (.slice (some ⟨ab, ao, none⟩) 500 c) := by rw [← Array.getD_eq_getD_getElem?]; exact e12
                  have s13 := str_len w1 (some ⟨ab, ao, none⟩) 500 c l HN.out (hlr.below hw.bel)
                  exact rstep_valW (wanted_of 8 92 false rfl rfl e8) (.string (str l)) w1 (by go_simp) ⟨A', n', c', (hp.put 13 97 (.string (str l)) (by simp [r22T]) (by simp [r22T]) rfl (by rw [hsz0]; decide)), hw⟩
                · intro L a w1 hI hi hd
                  obtain ⟨A', n', c', hp, hw⟩ := hI
                  simp [Region.binds] at hd
                  have e8 := hp.pu (8, 92, (.bool false)) (by simp [r22T]) (by simp [hd])
                  simp only at e8
                  have f8 : a.tmps[92]?.getD undef = (.bool false) := by rw [← Array.getD_eq_getD_getElem?]; exact e8
                  have e11 := hp.pu (11, 95, (.string (str F))) (by simp [r22T]) (by simp [hd])
                  simp only at e11
                  have f11 : a.tmps[95]?.getD undef = (.string (str F)) := by rw [← Array.getD_eq_getD_getElem?]; exact e11
                  have e13 := hp.pu (13, 97, (.string (str l))) (by simp [r22T]) (by simp [hd])
                  simp only at e13
                  have f13 : a.tmps[97]?.getD undef = (.string (str l)) := by rw [← Array.getD_eq_getD_getElem?]; exact e13
                  have hse := str_beq F l
                  have hfl := HFL.out
                  exact rstep_valW (wanted_of 8 92 false rfl rfl e8) (.bool false) w1 (by go_simp) ⟨A', n', c', (hp.put 14 98 (.bool false) (by simp [r22T]) (by simp [r22T]) rfl (by rw [hsz0]; decide)), hw⟩
                · intro L a w1 hI hi hd
                  obtain ⟨A', n', c', hp, hw⟩ := hI
                  simp [Region.binds] at hd
                  have e8 := hp.pu (8, 92, (.bool false)) (by simp [r22T]) (by simp [hd])
                  simp only at e8
                  have f8 : a.tmps[92]?.getD undef = (.bool false) := by rw [← Array.getD_eq_getD_getElem?]; exact e8
                  have e14 := hp.pu (14, 98, (.bool false)) (by simp [r22T]) (by simp [hd])
                  simp only at e14
                  have f14 : a.tmps[98]?.getD undef = (.bool false) := by rw [← Array.getD_eq_getD_getElem?]; exact e14
                  exact rstep_valW (wanted_none rfl _) (.bool false) w1 (by go_simp) ⟨A', n', c', (hp.put 15 99 (.bool false) (by simp [r22T]) (by simp [r22T]) rfl (by rw [hsz0]; decide)), hw⟩
              rintro L a Y ⟨A', n', c', hp, hw⟩ hL
              have e15 := hp.pu (15, 99, (.bool false)) (by simp [r22T]) (hL 15 (by simp))
              simp only at e15
              have hwb := hw.bel
              rw [hp.eq]
              refine of_assigns (P := Try.prog) _ _ _ _ ?_
              rw [ha0.out]
              simp only [asgs, List.map, e15]
              generalize a.tmps.getD 84 undef = u84
              generalize a.tmps.getD 85 undef = u85
              generalize a.tmps.getD 86 undef = u86
              generalize a.tmps.getD 87 undef = u87
              generalize a.tmps.getD 88 undef = u88
              generalize a.tmps.getD 89 undef = u89
              generalize a.tmps.getD 90 undef = u90
              generalize a.tmps.getD 91 undef = u91
              generalize a.tmps.getD 92 undef = u92
              generalize a.tmps.getD 93 undef = u93
              generalize a.tmps.getD 94 undef = u94
              generalize a.tmps.getD 95 undef = u95
              generalize a.tmps.getD 96 undef = u96
              generalize a.tmps.getD 97 undef = u97
              generalize a.tmps.getD 98 undef = u98
              clear hp hw hL e15 ha0 z0 z4 z5 hsz0
              clear a0 a L
              have hRy := hRr.below hwb hRr.lt
              have hBy := below_step hbel hwb (Nat.le_refl _)
              have hGy := hGr.below hwb hGr.lt
              have hoy := hown.below hwb
              have f0 := hRy.frozen 0
              have f1 := hRy.frozen 1
              have f2 := hRy.frozen 2
              have f3 := hRy.frozen 3
              obtain ⟨x0, x1, x2, x3⟩ := hRy.c4
              obtain ⟨y0, y1, y2, y3⟩ := hGy.c4
              go_wp2
              refine ret_cell rfl rb #[.int .u8 (k0 : Int), .int .u32 (k1 : Int), .slice A1 nz c1, .slice D1 nz cD1] _ rfl (hRy.set4 _ _ _ _) Try.underlying26 rfl (by kernel_rfl) rfl ?_
              rw [HP.out]
              have hbe := hBy.grown (grown4 Y rb (.int .u8 (k0 : Int)) (.int .u32 (k1 : Int)) (.slice A1 nz c1) (.slice D1 nz cD1)) hBy.size (fun q hq => by injection hq with hq; have := HRB.out; omega)
              obtain rfl := HS.out
              exact ⟨A1, nz, c1, D1, nz, cD1, rfl, ⟨G, ps, rfl, (((((hoy.far _ 0 _ (by omega)).far _ 1 _ (by omega)).far _ 2 _ (by omega)).far _ 3 _ (by omega)).base_ (by have := HRB.out; omega))⟩, hbe⟩
            · have HP : Hid (SltM.readP l = none) := Lib.hid (HP0.out.2 (fun h => hfl h.2))
              have HFL := Lib.hid hfl
              clear hfl hm
              go_upto_region 22 with fail
              refine wp_named fun a0 ha0 => ?_
              have z0 : a0.tmps.getD 0 undef = .slice (some ⟨ab, ao, none⟩) 500 c := by rw [ha0.out]; rfl
              have z4 : a0.tmps.getD 4 undef = .pointer (some ⟨gr, 0, none⟩) := by rw [ha0.out]; rfl
              have z5 : a0.tmps.getD 5 undef = .pointer (some ⟨G, 0, none⟩) := by rw [ha0.out]; rfl
              have hsz0 : a0.tmps.size = 102 := by rw [ha0.out]; rfl
              refine wp_region_invB _ (by kernel_rfl) (fun L a wv => ∃ A' n' c', PIF a0 [84, 85, 86, 87, 88, 89, 90, 91, 92, 93, 94, 95, 96, 97, 98, 99] (r22F k0 k1 A1 nz c1 D1 cD1 G gr ab ao c l F A' n' c') L a ∧ FrW wr A' n' F (L 10) wv) (by kernel_rfl) ?_ ?_ ?_
              · exact ⟨none, 0, 0, PIF.start _ _ _, ⟨rfl, rfl, rfl, Nat.le_refl _, fun _ _ => rfl⟩, nofun⟩
              rotate_left
              · refine ⟨?_, ?_, ?_, ?_, ?_, ?_, ?_, ?_, ?_, ?_, ?_, ?_, ?_, ?_, ?_, ?_, trivial⟩
                · intro L a w1 hI hi hd
                  obtain ⟨A', n', c', hp, hw⟩ := hI
                  have t4 := hp.at_ 4 _ rfl z4
                  have t4' := t4
                  rw [Array.getD_eq_getD_getElem?] at t4'
                  exact rstep_valW (wanted_none rfl _) (.pointer (some ⟨gr, 1, none⟩)) w1 (by go_simp) ⟨A', n', c', (hp.put 0 84 (.pointer (some ⟨gr, 1, none⟩)) (by simp [r22F]) (by simp [r22F]) rfl (by rw [hsz0]; decide)), hw⟩
                · intro L a w1 hI hi hd
                  obtain ⟨A', n', c', hp, hw⟩ := hI
                  simp [Region.binds] at hd
                  have e0 := hp.pu (0, 84, (.pointer (some ⟨gr, 1, none⟩))) (by simp [r22F]) (by simp [hd])
                  simp only at e0
                  have f0 : a.tmps[84]?.getD undef = (.pointer (some ⟨gr, 1, none⟩)) := by rw [← Array.getD_eq_getD_getElem?]; exact e0
                  have hec := (hbr.below hw.bel hbr.lt).cell 1
                  simp only [List.getElem?_toArray, List.getElem?_cons_zero, List.getElem?_cons_succ] at hec
                  exact rstep_valW (wanted_none rfl _) (.int .i64 0) w1 (by go_simp) ⟨A', n', c', (hp.put 1 85 (.int .i64 0) (by simp [r22F]) (by simp [r22F]) rfl (by rw [hsz0]; decide)), hw⟩
                · intro L a w1 hI hi hd
                  obtain ⟨A', n', c', hp, hw⟩ := hI
                  simp [Region.binds] at hd
                  have e1 := hp.pu (1, 85, (.int .i64 0)) (by simp [r22F]) (by simp [hd])
                  simp only at e1
                  have f1 : a.tmps[85]?.getD undef = (.int .i64 0) := by rw [← Array.getD_eq_getD_getElem?]; exact e1
                  exact rstep_valW (wanted_none rfl _) (.bool false) w1 (by go_simp) ⟨A', n', c', (hp.put 2 86 (.bool false) (by simp [r22F]) (by simp [r22F]) rfl (by rw [hsz0]; decide)), hw⟩
                · intro L a w1 hI hi hd
                  obtain ⟨A', n', c', hp, hw⟩ := hI
                  simp [Region.binds] at hd
                  have e2 := hp.pu (2, 86, (.bool false)) (by simp [r22F]) (by simp [hd])
                  simp only at e2
                  have f2 : a.tmps[86]?.getD undef = (.bool false) := by rw [← Array.getD_eq_getD_getElem?]; exact e2
                  exact rstep_valW (wanted_none rfl _) (.bool false) w1 (by go_simp) ⟨A', n', c', (hp.put 3 87 (.bool false) (by simp [r22F]) (by simp [r22F]) rfl (by rw [hsz0]; decide)), hw⟩
                · intro L a w1 hI hi hd
                  obtain ⟨A', n', c', hp, hw⟩ := hI
                  simp [Region.binds] at hd
                  have e3 := hp.pu (3, 87, (.bool false)) (by simp [r22F]) (by simp [hd])
                  simp only at e3
                  have f3 : a.tmps[87]?.getD undef = (.bool false) := by rw [← Array.getD_eq_getD_getElem?]; exact e3
                  have t5 := hp.at_ 5 _ rfl z5
                  have t5' := t5
                  rw [Array.getD_eq_getD_getElem?] at t5'
                  obtain ⟨y0, y1, y2, y3⟩ := (hGr.below hw.bel hGr.lt).c4
                  exact rstep_valW (wanted_of 3 87 false rfl rfl e3) (.agg #[.int .u8 (k0 : Int), .int .u32 (k1 : Int), .slice A1 nz c1, .slice D1 nz cD1]) w1 (by go_simp) ⟨A', n', c', (hp.put 4 88 (.agg #[.int .u8 (k0 : Int), .int .u32 (k1 : Int), .slice A1 nz c1, .slice D1 nz cD1]) (by simp [r22F]) (by simp [r22F]) rfl (by rw [hsz0]; decide)), hw⟩
                · intro L a w1 hI hi hd
                  obtain ⟨A', n', c', hp, hw⟩ := hI
                  simp [Region.binds] at hd
                  have e3 := hp.pu (3, 87, (.bool false)) (by simp [r22F]) (by simp [hd])
                  simp only at e3
                  have f3 : a.tmps[87]?.getD undef = (.bool false) := by rw [← Array.getD_eq_getD_getElem?]; exact e3
                  have e4 := hp.pu (4, 88, (.agg #[.int .u8 (k0 : Int), .int .u32 (k1 : Int), .slice A1 nz c1, .slice D1 nz cD1])) (by simp [r22F]) (by simp [hd])
                  simp only at e4
                  have f4 : a.tmps[88]?.getD undef = (.agg #[.int .u8 (k0 : Int), .int .u32 (k1 : Int), .slice A1 nz c1, .slice D1 nz cD1]) := by rw [← Array.getD_eq_getD_getElem?]; exact e4
                  have hi : L 5 = false := hi
                  refine rstep_callW (wanted_of 3 87 false rfl rfl e3) 25 #[.agg #[.int .u8 (k0 : Int), .int .u32 (k1 : Int), .slice A1 nz c1, .slice D1 nz cD1]] (by go_simp) ?_
                  refine (hma.out w1 hw.bel).mono ?_
                  rintro e w2 ⟨r, rfl, hr, hb⟩
                  obtain rfl : r = true := by exact hr.out.2 HMY.out
                  exact ⟨A', n', c', hp.put 5 89 (.bool true) (by simp [r22F]) (by simp [r22F]) rfl (by rw [hsz0]; decide), hw.step hb⟩
                · intro L a w1 hI hi hd
                  obtain ⟨A', n', c', hp, hw⟩ := hI
                  simp [Region.binds] at hd
                  have e3 := hp.pu (3, 87, (.bool false)) (by simp [r22F]) (by simp [hd])
                  simp only at e3
                  have f3 : a.tmps[87]?.getD undef = (.bool false) := by rw [← Array.getD_eq_getD_getElem?]; exact e3
                  have e5 := hp.pu (5, 89, (.bool true)) (by simp [r22F]) (by simp [hd])
                  simp only at e5
                  have f5 : a.tmps[89]?.getD undef = (.bool true) := by rw [← Array.getD_eq_getD_getElem?]; exact e5
                  exact rstep_valW (wanted_of 3 87 false rfl rfl e3) (.bool false) w1 (by go_simp) ⟨A', n', c', (hp.put 6 90 (.bool false) (by simp [r22F]) (by simp [r22F]) rfl (by rw [hsz0]; decide)), hw⟩
                · intro L a w1 hI hi hd
                  obtain ⟨A', n', c', hp, hw⟩ := hI
                  simp [Region.binds] at hd
                  have e3 := hp.pu (3, 87, (.bool false)) (by simp [r22F]) (by simp [hd])
                  simp only at e3
                  have f3 : a.tmps[87]?.getD undef = (.bool false) := by rw [← Array.getD_eq_getD_getElem?]; exact e3
                  have e6 := hp.pu (6, 90, (.bool false)) (by simp [r22F]) (by simp [hd])
                  simp only at e6
                  have f6 : a.tmps[90]?.getD undef = (.bool false) := by rw [← Array.getD_eq_getD_getElem?]; exact e6
                  exact rstep_valW (wanted_none rfl _) (.bool false) w1 (by go_simp) ⟨A', n', c', (hp.put 7 91 (.bool false) (by simp [r22F]) (by simp [r22F]) rfl (by rw [hsz0]; decide)), hw⟩
                · intro L a w1 hI hi hd
                  obtain ⟨A', n', c', hp, hw⟩ := hI
                  simp [Region.binds] at hd
                  have e7 := hp.pu (7, 91, (.bool false)) (by simp [r22F]) (by simp [hd])
                  simp only at e7
                  have f7 : a.tmps[91]?.getD undef = (.bool false) := by rw [← Array.getD_eq_getD_getElem?]; exact e7
                  exact rstep_valW (wanted_none rfl _) (.bool false) w1 (by go_simp) ⟨A', n', c', (hp.put 8 92 (.bool false) (by simp [r22F]) (by simp [r22F]) rfl (by rw [hsz0]; decide)), hw⟩
                · intro L a w1 hI hi hd
                  obtain ⟨A', n', c', hp, hw⟩ := hI
                  simp [Region.binds] at hd
                  have e8 := hp.pu (8, 92, (.bool false)) (by simp [r22F]) (by simp [hd])
                  simp only at e8
                  have f8 : a.tmps[92]?.getD undef = (.bool false) := by rw [← Array.getD_eq_getD_getElem?]; exact e8
                  have t5 := hp.at_ 5 _ rfl z5
                  have t5' := t5
                  rw [Array.getD_eq_getD_getElem?] at t5'
                  obtain ⟨y0, y1, y2, y3⟩ := (hGr.below hw.bel hGr.lt).c4
                  exact rstep_valW (wanted_of 8 92 false rfl rfl e8) (.agg #[.int .u8 (k0 : Int), .int .u32 (k1 : Int), .slice A1 nz c1, .slice D1 nz cD1]) w1 (by go_simp) ⟨A', n', c', (hp.put 9 93 (.agg #[.int .u8 (k0 : Int), .int .u32 (k1 : Int), .slice A1 nz c1, .slice D1 nz cD1]) (by simp [r22F]) (by simp [r22F]) rfl (by rw [hsz0]; decide)), hw⟩
                · intro L a w1 hI hi hd
                  obtain ⟨A', n', c', hp, hw⟩ := hI
                  simp [Region.binds] at hd
                  have e8 := hp.pu (8, 92, (.bool false)) (by simp [r22F]) (by simp [hd])
                  simp only at e8
                  have f8 : a.tmps[92]?.getD undef = (.bool false) := by rw [← Array.getD_eq_getD_getElem?]; exact e8
                  have e9 := hp.pu (9, 93, (.agg #[.int .u8 (k0 : Int), .int .u32 (k1 : Int), .slice A1 nz c1, .slice D1 nz cD1])) (by simp [r22F]) (by simp [hd])
                  simp only at e9
                  have f9 : a.tmps[93]?.getD undef = (.agg #[.int .u8 (k0 : Int), .int .u32 (k1 : Int), .slice A1 nz c1, .slice D1 nz cD1]) := by rw [← Array.getD_eq_getD_getElem?]; exact e9
                  have hi : L 10 = false := hi
                  refine rstep_callW (wanted_of 8 92 false rfl rfl e8) 26 #[.agg #[.int .u8 (k0 : Int), .int .u32 (k1 : Int), .slice A1 nz c1, .slice D1 nz cD1]] (by go_simp) ?_
                  refine (hfo.out w1 hw.bel).mono ?_
                  rintro e w2 ⟨A2, n2, c2, rfl, hn2, hO, hb⟩
                  exact ⟨A2, n2, c2, PIF.put (PIF.swap (p2 := (r22F k0 k1 A1 nz c1 D1 cD1 G gr ab ao c l F A2 n2 c2)) hp (by intro q hq hL; simp only [r22F, List.mem_cons, List.not_mem_nil, or_false] at hq; rcases hq with rfl | rfl | rfl | rfl | rfl | rfl | rfl | rfl | rfl | rfl | rfl | rfl | rfl | rfl | rfl | rfl <;> first | (simp [r22F]; done) | exact absurd hL (by show ¬ L 10 = true; rw [hi]; simp))) 10 94 (.slice A2 n2 c2) (by simp [r22F]) (by simp [r22F]) rfl (by rw [hsz0]; decide), below_step hw.bel hb (Nat.le_refl _), fun _ => ⟨hO.row, hn2.out⟩⟩
                · intro L a w1 hI hi hd
                  obtain ⟨A', n', c', hp, hw⟩ := hI
                  simp [Region.binds] at hd
                  have e8 := hp.pu (8, 92, (.bool false)) (by simp [r22F]) (by simp [hd])
                  simp only at e8
                  have f8 : a.tmps[92]?.getD undef = (.bool false) := by rw [← Array.getD_eq_getD_getElem?]; exact e8
                  have e10 := hp.pu (10, 94, (.slice A' n' c')) (by simp [r22F]) (by simp [hd])
                  simp only at e10
                  have f10 : a.tmps[94]?.getD undef = (.slice A' n' c') := by rw [← Array.getD_eq_getD_getElem?]; exact e10
                  obtain ⟨hrf, hnf⟩ := hw.f (by simp [hd])
                  have s11 := str_len w1 A' n' c' F hnf hrf
                  exact rstep_valW (wanted_of 8 92 false rfl rfl e8) (.string (str F)) w1 (by go_simp) ⟨A', n', c', (hp.put 11 95 (.string (str F)) (by simp [r22F]) (by simp [r22F]) rfl (by rw [hsz0]; decide)), hw⟩
                · intro L a w1 hI hi hd
                  obtain ⟨A', n', c', hp, hw⟩ := hI
                  simp [Region.binds] at hd
                  have e8 := hp.pu (8, 92, (.bool false)) (by simp [r22F]) (by simp [hd])
                  simp only at e8
                  have f8 : a.tmps[92]?.getD undef = (.bool false) := by rw [← Array.getD_eq_getD_getElem?]; exact e8
                  have t0 := hp.at_ 0 _ rfl z0
                  have t0' := t0
                  rw [Array.getD_eq_getD_getElem?] at t0'
                  exact rstep_valW (wanted_of 8 92 false rfl rfl e8) (.slice (some ⟨ab, ao, none⟩) 500 c) w1 (by go_simp) ⟨A', n', c', (hp.put 12 96 (.slice (some ⟨ab, ao, none⟩) 500 c) (by simp [r22F]) (by simp [r22F]) rfl (by rw [hsz0]; decide)), hw⟩
                · intro L a w1 hI hi hd
                  obtain ⟨A', n', c', hp, hw⟩ := hI
                  simp [Region.binds] at hd
                  have e8 := hp.pu (8, 92, (.bool false)) (by simp [r22F]) (by simp [hd])
                  simp only at e8
                  have f8 : a.tmps[92]?.getD undef = (.bool false) := by rw [← Array.getD_eq_getD_getElem?]; exact e8
                  have e12 := hp.pu (12, 96, (.slice (some ⟨ab, ao, none⟩) 500 c)) (by simp [r22F]) (by simp [hd])
                  simp only at e12
                  have f12 : a.tmps[96]?.getD undef = (.slice (some ⟨ab, ao, none⟩) 500 c) := by rw [← Array.getD_eq_getD_getElem?]; exact e12
                  have s13 := str_len w1 (some ⟨ab, ao, none⟩) 500 c l HN.out (hlr.below hw.bel)
                  exact rstep_valW (wanted_of 8 92 false rfl rfl e8) (.string (str l)) w1 (by go_simp) ⟨A', n', c', (hp.put 13 97 (.string (str l)) (by simp [r22F]) (by simp [r22F]) rfl (by rw [hsz0]; decide)), hw⟩
                · intro L a w1 hI hi hd
                  obtain ⟨A', n', c', hp, hw⟩ := hI
                  simp [Region.binds] at hd
                  have e8 := hp.pu (8, 92, (.bool false)) (by simp [r22F]) (by simp [hd])
                  simp only at e8
                  have f8 : a.tmps[92]?.getD undef = (.bool false) := by rw [← Array.getD_eq_getD_getElem?]; exact e8
                  have e11 := hp.pu (11, 95, (.string (str F))) (by simp [r22F]) (by simp [hd])
                  simp only at e11
                  have f11 : a.tmps[95]?.getD undef = (.string (str F)) := by rw [← Array.getD_eq_getD_getElem?]; exact e11
                  have e13 := hp.pu (13, 97, (.string (str l))) (by simp [r22F]) (by simp [hd])
                  simp only at e13
                  have f13 : a.tmps[97]?.getD undef = (.string (str l)) := by rw [← Array.getD_eq_getD_getElem?]; exact e13
                  have hse := str_beq F l
                  have hfl := HFL.out
                  exact rstep_valW (wanted_of 8 92 false rfl rfl e8) (.bool true) w1 (by go_simp) ⟨A', n', c', (hp.put 14 98 (.bool true) (by simp [r22F]) (by simp [r22F]) rfl (by rw [hsz0]; decide)), hw⟩
                · intro L a w1 hI hi hd
                  obtain ⟨A', n', c', hp, hw⟩ := hI
                  simp [Region.binds] at hd
                  have e8 := hp.pu (8, 92, (.bool false)) (by simp [r22F]) (by simp [hd])
                  simp only at e8
                  have f8 : a.tmps[92]?.getD undef = (.bool false) := by rw [← Array.getD_eq_getD_getElem?]; exact e8
                  have e14 := hp.pu (14, 98, (.bool true)) (by simp [r22F]) (by simp [hd])
                  simp only at e14
                  have f14 : a.tmps[98]?.getD undef = (.bool true) := by rw [← Array.getD_eq_getD_getElem?]; exact e14
                  exact rstep_valW (wanted_none rfl _) (.bool true) w1 (by go_simp) ⟨A', n', c', (hp.put 15 99 (.bool true) (by simp [r22F]) (by simp [r22F]) rfl (by rw [hsz0]; decide)), hw⟩
              rintro L a Y ⟨A', n', c', hp, hw⟩ hL
              have e15 := hp.pu (15, 99, (.bool true)) (by simp [r22F]) (hL 15 (by simp))
              simp only at e15
              have hwb := hw.bel
              rw [hp.eq]
              refine of_assigns (P := Try.prog) _ _ _ _ ?_
              rw [ha0.out]
              simp only [asgs, List.map, e15]
              generalize a.tmps.getD 84 undef = u84
              generalize a.tmps.getD 85 undef = u85
              generalize a.tmps.getD 86 undef = u86
              generalize a.tmps.getD 87 undef = u87
              generalize a.tmps.getD 88 undef = u88
              generalize a.tmps.getD 89 undef = u89
              generalize a.tmps.getD 90 undef = u90
              generalize a.tmps.getD 91 undef = u91
              generalize a.tmps.getD 92 undef = u92
              generalize a.tmps.getD 93 undef = u93
              generalize a.tmps.getD 94 undef = u94
              generalize a.tmps.getD 95 undef = u95
              generalize a.tmps.getD 96 undef = u96
              generalize a.tmps.getD 97 undef = u97
              generalize a.tmps.getD 98 undef = u98
              clear hp hw hL e15 ha0 z0 z4 z5 hsz0
              clear a0 a L
              have hRy := hRr.below hwb hRr.lt
              have hBy := below_step hbel hwb (Nat.le_refl _)
              have f0 := hRy.frozen 0
              have f1 := hRy.frozen 1
              have f2 := hRy.frozen 2
              have f3 := hRy.frozen 3
              obtain ⟨x0, x1, x2, x3⟩ := hRy.c4
              go_wp2
              refine ret_cell rfl rb #[.int .u8 0, .int .u32 0, .slice none 0 0, .slice none 0 0] _ rfl (hRy.set4 _ _ _ _) Try.underlying26 rfl (by kernel_rfl) rfl ?_
              rw [HP.out]
              exact ⟨rfl, hBy.grown (grown4 _ _ _ _ _ _) hBy.size (fun q hq => by injection hq with hq; have := HRB.out; omega)⟩
          · have HP : Hid (SltM.readP l = none) := Lib.hid (HP0.out.2 (fun h => hm h.1))
            have HMY := Lib.hid hm
            clear hm
            go_upto_region 22 with fail
            refine wp_named fun a0 ha0 => ?_
            have z0 : a0.tmps.getD 0 undef = .slice (some ⟨ab, ao, none⟩) 500 c := by rw [ha0.out]; rfl
            have z4 : a0.tmps.getD 4 undef = .pointer (some ⟨gr, 0, none⟩) := by rw [ha0.out]; rfl
            have z5 : a0.tmps.getD 5 undef = .pointer (some ⟨G, 0, none⟩) := by rw [ha0.out]; rfl
            have hsz0 : a0.tmps.size = 102 := by rw [ha0.out]; rfl
            refine wp_region_invB _ (by kernel_rfl) (fun L a wv => ∃ A' n' c', PIF a0 [84, 85, 86, 87, 88, 89, 90, 91, 92, 93, 94, 95, 96, 97, 98, 99] (r22N k0 k1 A1 nz c1 D1 cD1 G gr ab ao c l F A' n' c') L a ∧ FrW wr A' n' F false wv) (by kernel_rfl) ?_ ?_ ?_
            · exact ⟨none, 0, 0, PIF.start _ _ _, ⟨rfl, rfl, rfl, Nat.le_refl _, fun _ _ => rfl⟩, nofun⟩
            rotate_left
            · refine ⟨?_, ?_, ?_, ?_, ?_, ?_, ?_, ?_, ?_, ?_, ?_, ?_, ?_, ?_, ?_, ?_, trivial⟩
              · intro L a w1 hI hi hd
                obtain ⟨A', n', c', hp, hw⟩ := hI
                have t4 := hp.at_ 4 _ rfl z4
                have t4' := t4
                rw [Array.getD_eq_getD_getElem?] at t4'
                exact rstep_valW (wanted_none rfl _) (.pointer (some ⟨gr, 1, none⟩)) w1 (by go_simp) ⟨A', n', c', (hp.put 0 84 (.pointer (some ⟨gr, 1, none⟩)) (by simp [r22N]) (by simp [r22N]) rfl (by rw [hsz0]; decide)), hw⟩
              · intro L a w1 hI hi hd
                obtain ⟨A', n', c', hp, hw⟩ := hI
                simp [Region.binds] at hd
                have e0 := hp.pu (0, 84, (.pointer (some ⟨gr, 1, none⟩))) (by simp [r22N]) (by simp [hd])
                simp only at e0
                have f0 : a.tmps[84]?.getD undef = (.pointer (some ⟨gr, 1, none⟩)) := by rw [← Array.getD_eq_getD_getElem?]; exact e0
                have hec := (hbr.below hw.bel hbr.lt).cell 1
                simp only [List.getElem?_toArray, List.getElem?_cons_zero, List.getElem?_cons_succ] at hec
                exact rstep_valW (wanted_none rfl _) (.int .i64 0) w1 (by go_simp) ⟨A', n', c', (hp.put 1 85 (.int .i64 0) (by simp [r22N]) (by simp [r22N]) rfl (by rw [hsz0]; decide)), hw⟩
              · intro L a w1 hI hi hd
                obtain ⟨A', n', c', hp, hw⟩ := hI
                simp [Region.binds] at hd
                have e1 := hp.pu (1, 85, (.int .i64 0)) (by simp [r22N]) (by simp [hd])
                simp only at e1
                have f1 : a.tmps[85]?.getD undef = (.int .i64 0) := by rw [← Array.getD_eq_getD_getElem?]; exact e1
                exact rstep_valW (wanted_none rfl _) (.bool false) w1 (by go_simp) ⟨A', n', c', (hp.put 2 86 (.bool false) (by simp [r22N]) (by simp [r22N]) rfl (by rw [hsz0]; decide)), hw⟩
              · intro L a w1 hI hi hd
                obtain ⟨A', n', c', hp, hw⟩ := hI
                simp [Region.binds] at hd
                have e2 := hp.pu (2, 86, (.bool false)) (by simp [r22N]) (by simp [hd])
                simp only at e2
                have f2 : a.tmps[86]?.getD undef = (.bool false) := by rw [← Array.getD_eq_getD_getElem?]; exact e2
                exact rstep_valW (wanted_none rfl _) (.bool false) w1 (by go_simp) ⟨A', n', c', (hp.put 3 87 (.bool false) (by simp [r22N]) (by simp [r22N]) rfl (by rw [hsz0]; decide)), hw⟩
              · intro L a w1 hI hi hd
                obtain ⟨A', n', c', hp, hw⟩ := hI
                simp [Region.binds] at hd
                have e3 := hp.pu (3, 87, (.bool false)) (by simp [r22N]) (by simp [hd])
                simp only at e3
                have f3 : a.tmps[87]?.getD undef = (.bool false) := by rw [← Array.getD_eq_getD_getElem?]; exact e3
                have t5 := hp.at_ 5 _ rfl z5
                have t5' := t5
                rw [Array.getD_eq_getD_getElem?] at t5'
                obtain ⟨y0, y1, y2, y3⟩ := (hGr.below hw.bel hGr.lt).c4
                exact rstep_valW (wanted_of 3 87 false rfl rfl e3) (.agg #[.int .u8 (k0 : Int), .int .u32 (k1 : Int), .slice A1 nz c1, .slice D1 nz cD1]) w1 (by go_simp) ⟨A', n', c', (hp.put 4 88 (.agg #[.int .u8 (k0 : Int), .int .u32 (k1 : Int), .slice A1 nz c1, .slice D1 nz cD1]) (by simp [r22N]) (by simp [r22N]) rfl (by rw [hsz0]; decide)), hw⟩
              · intro L a w1 hI hi hd
                obtain ⟨A', n', c', hp, hw⟩ := hI
                simp [Region.binds] at hd
                have e3 := hp.pu (3, 87, (.bool false)) (by simp [r22N]) (by simp [hd])
                simp only at e3
                have f3 : a.tmps[87]?.getD undef = (.bool false) := by rw [← Array.getD_eq_getD_getElem?]; exact e3
                have e4 := hp.pu (4, 88, (.agg #[.int .u8 (k0 : Int), .int .u32 (k1 : Int), .slice A1 nz c1, .slice D1 nz cD1])) (by simp [r22N]) (by simp [hd])
                simp only at e4
                have f4 : a.tmps[88]?.getD undef = (.agg #[.int .u8 (k0 : Int), .int .u32 (k1 : Int), .slice A1 nz c1, .slice D1 nz cD1]) := by rw [← Array.getD_eq_getD_getElem?]; exact e4
                have hi : L 5 = false := hi
                refine rstep_callW (wanted_of 3 87 false rfl rfl e3) 25 #[.agg #[.int .u8 (k0 : Int), .int .u32 (k1 : Int), .slice A1 nz c1, .slice D1 nz cD1]] (by go_simp) ?_
                refine (hma.out w1 hw.bel).mono ?_
                rintro e w2 ⟨r, rfl, hr, hb⟩
                obtain rfl : r = false := by cases r with | false => rfl | true => exact absurd (hr.out.1 rfl) HMY.out
                exact ⟨A', n', c', hp.put 5 89 (.bool false) (by simp [r22N]) (by simp [r22N]) rfl (by rw [hsz0]; decide), hw.step hb⟩
              · intro L a w1 hI hi hd
                obtain ⟨A', n', c', hp, hw⟩ := hI
                simp [Region.binds] at hd
                have e3 := hp.pu (3, 87, (.bool false)) (by simp [r22N]) (by simp [hd])
                simp only at e3
                have f3 : a.tmps[87]?.getD undef = (.bool false) := by rw [← Array.getD_eq_getD_getElem?]; exact e3
                have e5 := hp.pu (5, 89, (.bool false)) (by simp [r22N]) (by simp [hd])
                simp only at e5
                have f5 : a.tmps[89]?.getD undef = (.bool false) := by rw [← Array.getD_eq_getD_getElem?]; exact e5
                exact rstep_valW (wanted_of 3 87 false rfl rfl e3) (.bool true) w1 (by go_simp) ⟨A', n', c', (hp.put 6 90 (.bool true) (by simp [r22N]) (by simp [r22N]) rfl (by rw [hsz0]; decide)), hw⟩
              · intro L a w1 hI hi hd
                obtain ⟨A', n', c', hp, hw⟩ := hI
                simp [Region.binds] at hd
                have e3 := hp.pu (3, 87, (.bool false)) (by simp [r22N]) (by simp [hd])
                simp only at e3
                have f3 : a.tmps[87]?.getD undef = (.bool false) := by rw [← Array.getD_eq_getD_getElem?]; exact e3
                have e6 := hp.pu (6, 90, (.bool true)) (by simp [r22N]) (by simp [hd])
                simp only at e6
                have f6 : a.tmps[90]?.getD undef = (.bool true) := by rw [← Array.getD_eq_getD_getElem?]; exact e6
                exact rstep_valW (wanted_none rfl _) (.bool true) w1 (by go_simp) ⟨A', n', c', (hp.put 7 91 (.bool true) (by simp [r22N]) (by simp [r22N]) rfl (by rw [hsz0]; decide)), hw⟩
              · intro L a w1 hI hi hd
                obtain ⟨A', n', c', hp, hw⟩ := hI
                simp [Region.binds] at hd
                have e7 := hp.pu (7, 91, (.bool true)) (by simp [r22N]) (by simp [hd])
                simp only at e7
                have f7 : a.tmps[91]?.getD undef = (.bool true) := by rw [← Array.getD_eq_getD_getElem?]; exact e7
                exact rstep_valW (wanted_none rfl _) (.bool true) w1 (by go_simp) ⟨A', n', c', (hp.put 8 92 (.bool true) (by simp [r22N]) (by simp [r22N]) rfl (by rw [hsz0]; decide)), hw⟩
              · intro L a w1 hI hi hd
                obtain ⟨A', n', c', hp, hw⟩ := hI
                simp [Region.binds] at hd
                have e8 := hp.pu (8, 92, (.bool true)) (by simp [r22N]) (by simp [hd])
                simp only at e8
                have f8 : a.tmps[92]?.getD undef = (.bool true) := by rw [← Array.getD_eq_getD_getElem?]; exact e8
                exact rstep_un (unwanted_of 8 92 false true (by decide) rfl rfl e8) ⟨A', n', c', (hp.put 9 93 undef (by simp [r22N]) (by simp [r22N]) rfl (by rw [hsz0]; decide)), hw⟩
              · intro L a w1 hI hi hd
                obtain ⟨A', n', c', hp, hw⟩ := hI
                simp [Region.binds] at hd
                have e8 := hp.pu (8, 92, (.bool true)) (by simp [r22N]) (by simp [hd])
                simp only at e8
                have f8 : a.tmps[92]?.getD undef = (.bool true) := by rw [← Array.getD_eq_getD_getElem?]; exact e8
                exact rstep_un (unwanted_of 8 92 false true (by decide) rfl rfl e8) ⟨A', n', c', (hp.put 10 94 undef (by simp [r22N]) (by simp [r22N]) rfl (by rw [hsz0]; decide)), hw⟩
              · intro L a w1 hI hi hd
                obtain ⟨A', n', c', hp, hw⟩ := hI
                simp [Region.binds] at hd
                have e8 := hp.pu (8, 92, (.bool true)) (by simp [r22N]) (by simp [hd])
                simp only at e8
                have f8 : a.tmps[92]?.getD undef = (.bool true) := by rw [← Array.getD_eq_getD_getElem?]; exact e8
                exact rstep_un (unwanted_of 8 92 false true (by decide) rfl rfl e8) ⟨A', n', c', (hp.put 11 95 undef (by simp [r22N]) (by simp [r22N]) rfl (by rw [hsz0]; decide)), hw⟩
              · intro L a w1 hI hi hd
                obtain ⟨A', n', c', hp, hw⟩ := hI
                simp [Region.binds] at hd
                have e8 := hp.pu (8, 92, (.bool true)) (by simp [r22N]) (by simp [hd])
                simp only at e8
                have f8 : a.tmps[92]?.getD undef = (.bool true) := by rw [← Array.getD_eq_getD_getElem?]; exact e8
                exact rstep_un (unwanted_of 8 92 false true (by decide) rfl rfl e8) ⟨A', n', c', (hp.put 12 96 undef (by simp [r22N]) (by simp [r22N]) rfl (by rw [hsz0]; decide)), hw⟩
              · intro L a w1 hI hi hd
                obtain ⟨A', n', c', hp, hw⟩ := hI
                simp [Region.binds] at hd
                have e8 := hp.pu (8, 92, (.bool true)) (by simp [r22N]) (by simp [hd])
                simp only at e8
                have f8 : a.tmps[92]?.getD undef = (.bool true) := by rw [← Array.getD_eq_getD_getElem?]; exact e8
                exact rstep_un (unwanted_of 8 92 false true (by decide) rfl rfl e8) ⟨A', n', c', (hp.put 13 97 undef (by simp [r22N]) (by simp [r22N]) rfl (by rw [hsz0]; decide)), hw⟩
              · intro L a w1 hI hi hd
                obtain ⟨A', n', c', hp, hw⟩ := hI
                simp [Region.binds] at hd
                have e8 := hp.pu (8, 92, (.bool true)) (by simp [r22N]) (by simp [hd])
                simp only at e8
                have f8 : a.tmps[92]?.getD undef = (.bool true) := by rw [← Array.getD_eq_getD_getElem?]; exact e8
                exact rstep_un (unwanted_of 8 92 false true (by decide) rfl rfl e8) ⟨A', n', c', (hp.put 14 98 undef (by simp [r22N]) (by simp [r22N]) rfl (by rw [hsz0]; decide)), hw⟩
              · intro L a w1 hI hi hd
                obtain ⟨A', n', c', hp, hw⟩ := hI
                simp [Region.binds] at hd
                have e8 := hp.pu (8, 92, (.bool true)) (by simp [r22N]) (by simp [hd])
                simp only at e8
                have f8 : a.tmps[92]?.getD undef = (.bool true) := by rw [← Array.getD_eq_getD_getElem?]; exact e8
                have e14 := hp.pu (14, 98, undef) (by simp [r22N]) (by simp [hd])
                simp only at e14
                have f14 : a.tmps[98]?.getD undef = undef := by rw [← Array.getD_eq_getD_getElem?]; exact e14
                exact rstep_valW (wanted_none rfl _) (.bool true) w1 (by go_simp) ⟨A', n', c', (hp.put 15 99 (.bool true) (by simp [r22N]) (by simp [r22N]) rfl (by rw [hsz0]; decide)), hw⟩
            rintro L a Y ⟨A', n', c', hp, hw⟩ hL
            have e15 := hp.pu (15, 99, (.bool true)) (by simp [r22N]) (hL 15 (by simp))
            simp only at e15
            have hwb := hw.bel
            rw [hp.eq]
            refine of_assigns (P := Try.prog) _ _ _ _ ?_
            rw [ha0.out]
            simp only [asgs, List.map, e15]
            generalize a.tmps.getD 84 undef = u84
            generalize a.tmps.getD 85 undef = u85
            generalize a.tmps.getD 86 undef = u86
            generalize a.tmps.getD 87 undef = u87
            generalize a.tmps.getD 88 undef = u88
            generalize a.tmps.getD 89 undef = u89
            generalize a.tmps.getD 90 undef = u90
            generalize a.tmps.getD 91 undef = u91
            generalize a.tmps.getD 92 undef = u92
            generalize a.tmps.getD 93 undef = u93
            generalize a.tmps.getD 94 undef = u94
            generalize a.tmps.getD 95 undef = u95
            generalize a.tmps.getD 96 undef = u96
            generalize a.tmps.getD 97 undef = u97
            generalize a.tmps.getD 98 undef = u98
            clear hp hw hL e15 ha0 z0 z4 z5 hsz0
            clear a0 a L
            have hRy := hRr.below hwb hRr.lt
            have hBy := below_step hbel hwb (Nat.le_refl _)
            have f0 := hRy.frozen 0
            have f1 := hRy.frozen 1
            have f2 := hRy.frozen 2
            have f3 := hRy.frozen 3
            obtain ⟨x0, x1, x2, x3⟩ := hRy.c4
            go_wp2
            refine ret_cell rfl rb #[.int .u8 0, .int .u32 0, .slice none 0 0, .slice none 0 0] _ rfl (hRy.set4 _ _ _ _) Try.underlying26 rfl (by kernel_rfl) rfl ?_
            rw [HP.out]
            exact ⟨rfl, hBy.grown (grown4 _ _ _ _ _ _) hBy.size (fun q hq => by injection hq with hq; have := HRB.out; omega)⟩
        · subst h1
          have HP : Hid (SltM.readP l = none) := Lib.hid (SltM.readP_many HM.out h2)
          clear hpe
          go_upto_region 22 with fail
          refine wp_named fun a0 ha0 => ?_
          have z0 : a0.tmps.getD 0 undef = .slice (some ⟨ab, ao, none⟩) 500 c := by rw [ha0.out]; rfl
          have z4 : a0.tmps.getD 4 undef = .pointer (some ⟨gr, 0, none⟩) := by rw [ha0.out]; rfl
          have z5 : a0.tmps.getD 5 undef = .pointer (some ⟨G, 0, none⟩) := by rw [ha0.out]; rfl
          have hsz0 : a0.tmps.size = 102 := by rw [ha0.out]; rfl
          refine wp_region_invB _ (by kernel_rfl) (fun L a wv => ∃ A' n' c', PIF a0 [84, 85, 86, 87, 88, 89, 90, 91, 92, 93, 94, 95, 96, 97, 98, 99] (r22E k0 k1 A1 nz c1 D1 cD1 G gr ab ao c l F A' n' c') L a ∧ FrW wr A' n' F false wv) (by kernel_rfl) ?_ ?_ ?_
          · exact ⟨none, 0, 0, PIF.start _ _ _, ⟨rfl, rfl, rfl, Nat.le_refl _, fun _ _ => rfl⟩, nofun⟩
          rotate_left
          · refine ⟨?_, ?_, ?_, ?_, ?_, ?_, ?_, ?_, ?_, ?_, ?_, ?_, ?_, ?_, ?_, ?_, trivial⟩
            · intro L a w1 hI hi hd
              obtain ⟨A', n', c', hp, hw⟩ := hI
              have t4 := hp.at_ 4 _ rfl z4
              have t4' := t4
              rw [Array.getD_eq_getD_getElem?] at t4'
              exact rstep_valW (wanted_none rfl _) (.pointer (some ⟨gr, 1, none⟩)) w1 (by go_simp) ⟨A', n', c', (hp.put 0 84 (.pointer (some ⟨gr, 1, none⟩)) (by simp [r22E]) (by simp [r22E]) rfl (by rw [hsz0]; decide)), hw⟩
            · intro L a w1 hI hi hd
              obtain ⟨A', n', c', hp, hw⟩ := hI
              simp [Region.binds] at hd
              have e0 := hp.pu (0, 84, (.pointer (some ⟨gr, 1, none⟩))) (by simp [r22E]) (by simp [hd])
              simp only at e0
              have f0 : a.tmps[84]?.getD undef = (.pointer (some ⟨gr, 1, none⟩)) := by rw [← Array.getD_eq_getD_getElem?]; exact e0
              have hec := (hbr.below hw.bel hbr.lt).cell 1
              simp only [List.getElem?_toArray, List.getElem?_cons_zero, List.getElem?_cons_succ] at hec
              exact rstep_valW (wanted_none rfl _) (.int .i64 4) w1 (by go_simp) ⟨A', n', c', (hp.put 1 85 (.int .i64 4) (by simp [r22E]) (by simp [r22E]) rfl (by rw [hsz0]; decide)), hw⟩
            · intro L a w1 hI hi hd
              obtain ⟨A', n', c', hp, hw⟩ := hI
              simp [Region.binds] at hd
              have e1 := hp.pu (1, 85, (.int .i64 4)) (by simp [r22E]) (by simp [hd])
              simp only at e1
              have f1 : a.tmps[85]?.getD undef = (.int .i64 4) := by rw [← Array.getD_eq_getD_getElem?]; exact e1
              exact rstep_valW (wanted_none rfl _) (.bool true) w1 (by go_simp) ⟨A', n', c', (hp.put 2 86 (.bool true) (by simp [r22E]) (by simp [r22E]) rfl (by rw [hsz0]; decide)), hw⟩
            · intro L a w1 hI hi hd
              obtain ⟨A', n', c', hp, hw⟩ := hI
              simp [Region.binds] at hd
              have e2 := hp.pu (2, 86, (.bool true)) (by simp [r22E]) (by simp [hd])
              simp only at e2
              have f2 : a.tmps[86]?.getD undef = (.bool true) := by rw [← Array.getD_eq_getD_getElem?]; exact e2
              exact rstep_valW (wanted_none rfl _) (.bool true) w1 (by go_simp) ⟨A', n', c', (hp.put 3 87 (.bool true) (by simp [r22E]) (by simp [r22E]) rfl (by rw [hsz0]; decide)), hw⟩
            · intro L a w1 hI hi hd
              obtain ⟨A', n', c', hp, hw⟩ := hI
              simp [Region.binds] at hd
              have e3 := hp.pu (3, 87, (.bool true)) (by simp [r22E]) (by simp [hd])
              simp only at e3
              have f3 : a.tmps[87]?.getD undef = (.bool true) := by rw [← Array.getD_eq_getD_getElem?]; exact e3
              exact rstep_un (unwanted_of 3 87 false true (by decide) rfl rfl e3) ⟨A', n', c', (hp.put 4 88 undef (by simp [r22E]) (by simp [r22E]) rfl (by rw [hsz0]; decide)), hw⟩
            · intro L a w1 hI hi hd
              obtain ⟨A', n', c', hp, hw⟩ := hI
              simp [Region.binds] at hd
              have e3 := hp.pu (3, 87, (.bool true)) (by simp [r22E]) (by simp [hd])
              simp only at e3
              have f3 : a.tmps[87]?.getD undef = (.bool true) := by rw [← Array.getD_eq_getD_getElem?]; exact e3
              exact rstep_un (unwanted_of 3 87 false true (by decide) rfl rfl e3) ⟨A', n', c', (hp.put 5 89 undef (by simp [r22E]) (by simp [r22E]) rfl (by rw [hsz0]; decide)), hw⟩
            · intro L a w1 hI hi hd
              obtain ⟨A', n', c', hp, hw⟩ := hI
              simp [Region.binds] at hd
              have e3 := hp.pu (3, 87, (.bool true)) (by simp [r22E]) (by simp [hd])
              simp only at e3
              have f3 : a.tmps[87]?.getD undef = (.bool true) := by rw [← Array.getD_eq_getD_getElem?]; exact e3
              exact rstep_un (unwanted_of 3 87 false true (by decide) rfl rfl e3) ⟨A', n', c', (hp.put 6 90 undef (by simp [r22E]) (by simp [r22E]) rfl (by rw [hsz0]; decide)), hw⟩
            · intro L a w1 hI hi hd
              obtain ⟨A', n', c', hp, hw⟩ := hI
              simp [Region.binds] at hd
              have e3 := hp.pu (3, 87, (.bool true)) (by simp [r22E]) (by simp [hd])
              simp only at e3
              have f3 : a.tmps[87]?.getD undef = (.bool true) := by rw [← Array.getD_eq_getD_getElem?]; exact e3
              have e6 := hp.pu (6, 90, undef) (by simp [r22E]) (by simp [hd])
              simp only at e6
              have f6 : a.tmps[90]?.getD undef = undef := by rw [← Array.getD_eq_getD_getElem?]; exact e6
              exact rstep_valW (wanted_none rfl _) (.bool true) w1 (by go_simp) ⟨A', n', c', (hp.put 7 91 (.bool true) (by simp [r22E]) (by simp [r22E]) rfl (by rw [hsz0]; decide)), hw⟩
            · intro L a w1 hI hi hd
              obtain ⟨A', n', c', hp, hw⟩ := hI
              simp [Region.binds] at hd
              have e7 := hp.pu (7, 91, (.bool true)) (by simp [r22E]) (by simp [hd])
              simp only at e7
              have f7 : a.tmps[91]?.getD undef = (.bool true) := by rw [← Array.getD_eq_getD_getElem?]; exact e7
              exact rstep_valW (wanted_none rfl _) (.bool true) w1 (by go_simp) ⟨A', n', c', (hp.put 8 92 (.bool true) (by simp [r22E]) (by simp [r22E]) rfl (by rw [hsz0]; decide)), hw⟩
            · intro L a w1 hI hi hd
              obtain ⟨A', n', c', hp, hw⟩ := hI
              simp [Region.binds] at hd
              have e8 := hp.pu (8, 92, (.bool true)) (by simp [r22E]) (by simp [hd])
              simp only at e8
              have f8 : a.tmps[92]?.getD undef = (.bool true) := by rw [← Array.getD_eq_getD_getElem?]; exact e8
              exact rstep_un (unwanted_of 8 92 false true (by decide) rfl rfl e8) ⟨A', n', c', (hp.put 9 93 undef (by simp [r22E]) (by simp [r22E]) rfl (by rw [hsz0]; decide)), hw⟩
            · intro L a w1 hI hi hd
              obtain ⟨A', n', c', hp, hw⟩ := hI
              simp [Region.binds] at hd
              have e8 := hp.pu (8, 92, (.bool true)) (by simp [r22E]) (by simp [hd])
              simp only at e8
              have f8 : a.tmps[92]?.getD undef = (.bool true) := by rw [← Array.getD_eq_getD_getElem?]; exact e8
              exact rstep_un (unwanted_of 8 92 false true (by decide) rfl rfl e8) ⟨A', n', c', (hp.put 10 94 undef (by simp [r22E]) (by simp [r22E]) rfl (by rw [hsz0]; decide)), hw⟩
            · intro L a w1 hI hi hd
              obtain ⟨A', n', c', hp, hw⟩ := hI
              simp [Region.binds] at hd
              have e8 := hp.pu (8, 92, (.bool true)) (by simp [r22E]) (by simp [hd])
              simp only at e8
              have f8 : a.tmps[92]?.getD undef = (.bool true) := by rw [← Array.getD_eq_getD_getElem?]; exact e8
              exact rstep_un (unwanted_of 8 92 false true (by decide) rfl rfl e8) ⟨A', n', c', (hp.put 11 95 undef (by simp [r22E]) (by simp [r22E]) rfl (by rw [hsz0]; decide)), hw⟩
            · intro L a w1 hI hi hd
              obtain ⟨A', n', c', hp, hw⟩ := hI
              simp [Region.binds] at hd
              have e8 := hp.pu (8, 92, (.bool true)) (by simp [r22E]) (by simp [hd])
              simp only at e8
              have f8 : a.tmps[92]?.getD undef = (.bool true) := by rw [← Array.getD_eq_getD_getElem?]; exact e8
              exact rstep_un (unwanted_of 8 92 false true (by decide) rfl rfl e8) ⟨A', n', c', (hp.put 12 96 undef (by simp [r22E]) (by simp [r22E]) rfl (by rw [hsz0]; decide)), hw⟩
            · intro L a w1 hI hi hd
              obtain ⟨A', n', c', hp, hw⟩ := hI
              simp [Region.binds] at hd
              have e8 := hp.pu (8, 92, (.bool true)) (by simp [r22E]) (by simp [hd])
              simp only at e8
              have f8 : a.tmps[92]?.getD undef = (.bool true) := by rw [← Array.getD_eq_getD_getElem?]; exact e8
              exact rstep_un (unwanted_of 8 92 false true (by decide) rfl rfl e8) ⟨A', n', c', (hp.put 13 97 undef (by simp [r22E]) (by simp [r22E]) rfl (by rw [hsz0]; decide)), hw⟩
            · intro L a w1 hI hi hd
              obtain ⟨A', n', c', hp, hw⟩ := hI
              simp [Region.binds] at hd
              have e8 := hp.pu (8, 92, (.bool true)) (by simp [r22E]) (by simp [hd])
              simp only at e8
              have f8 : a.tmps[92]?.getD undef = (.bool true) := by rw [← Array.getD_eq_getD_getElem?]; exact e8
              exact rstep_un (unwanted_of 8 92 false true (by decide) rfl rfl e8) ⟨A', n', c', (hp.put 14 98 undef (by simp [r22E]) (by simp [r22E]) rfl (by rw [hsz0]; decide)), hw⟩
            · intro L a w1 hI hi hd
              obtain ⟨A', n', c', hp, hw⟩ := hI
              simp [Region.binds] at hd
              have e8 := hp.pu (8, 92, (.bool true)) (by simp [r22E]) (by simp [hd])
              simp only at e8
              have f8 : a.tmps[92]?.getD undef = (.bool true) := by rw [← Array.getD_eq_getD_getElem?]; exact e8
              have e14 := hp.pu (14, 98, undef) (by simp [r22E]) (by simp [hd])
              simp only at e14
              have f14 : a.tmps[98]?.getD undef = undef := by rw [← Array.getD_eq_getD_getElem?]; exact e14
              exact rstep_valW (wanted_none rfl _) (.bool true) w1 (by go_simp) ⟨A', n', c', (hp.put 15 99 (.bool true) (by simp [r22E]) (by simp [r22E]) rfl (by rw [hsz0]; decide)), hw⟩
          rintro L a Y ⟨A', n', c', hp, hw⟩ hL
          have e15 := hp.pu (15, 99, (.bool true)) (by simp [r22E]) (hL 15 (by simp))
          simp only at e15
          have hwb := hw.bel
          rw [hp.eq]
          refine of_assigns (P := Try.prog) _ _ _ _ ?_
          rw [ha0.out]
          simp only [asgs, List.map, e15]
          generalize a.tmps.getD 84 undef = u84
          generalize a.tmps.getD 85 undef = u85
          generalize a.tmps.getD 86 undef = u86
          generalize a.tmps.getD 87 undef = u87
          generalize a.tmps.getD 88 undef = u88
          generalize a.tmps.getD 89 undef = u89
          generalize a.tmps.getD 90 undef = u90
          generalize a.tmps.getD 91 undef = u91
          generalize a.tmps.getD 92 undef = u92
          generalize a.tmps.getD 93 undef = u93
          generalize a.tmps.getD 94 undef = u94
          generalize a.tmps.getD 95 undef = u95
          generalize a.tmps.getD 96 undef = u96
          generalize a.tmps.getD 97 undef = u97
          generalize a.tmps.getD 98 undef = u98
          clear hp hw hL e15 ha0 z0 z4 z5 hsz0
          clear a0 a L
          have hRy := hRr.below hwb hRr.lt
          have hBy := below_step hbel hwb (Nat.le_refl _)
          have f0 := hRy.frozen 0
          have f1 := hRy.frozen 1
          have f2 := hRy.frozen 2
          have f3 := hRy.frozen 3
          obtain ⟨x0, x1, x2, x3⟩ := hRy.c4
          go_wp2
          refine ret_cell rfl rb #[.int .u8 0, .int .u32 0, .slice none 0 0, .slice none 0 0] _ rfl (hRy.set4 _ _ _ _) Try.underlying26 rfl (by kernel_rfl) rfl ?_
          rw [HP.out]
          exact ⟨rfl, hBy.grown (grown4 _ _ _ _ _ _) hBy.size (fun q hq => by injection hq with hq; have := HRB.out; omega)⟩
set_option maxRecDepth 100000 in
set_option maxHeartbeats 4000000 in
/-- The document's reading computes SltM.readP. -/
theorem refread8_any (A : Option Addr) (n c : Nat) (l : List UInt8) (w : World) (hr : Row w A (bs l)) (hn : l.length = n) (hnc : n ≤ c) (hc : c ≤ maxLen) :
    Calls Try.prog 23 #[.slice A n c] w (RP8w (SltM.readP l) w) := by
  by_cases h5 : n = 500
  · subst h5
    rcases hr with e | ⟨b, o, rfl, hcc⟩
    · have := congrArg List.length e; rw [bs_length, hn] at this; cases this
    · exact refread8_500 b o c l w (.inr ⟨b, o, rfl, hcc⟩) hn hnc hc
  · unfold maxLen at hc
    have hnone : SltM.readP l = none := by unfold SltM.readP; rw [if_pos (by omega)]
    rw [hnone]
    have hne : ((n : Int) != 500) = true := by simp; omega
    clear hnone
    go_enter Try.func23, Try.ntmps23
    have hR0 := Blk.new w 26 #[.int .u8 0, .int .u32 0, .slice none 0 0, .slice none 0 0]
    have hB0 : Below w.heap.size w (w.alloc (.cells #[.int .u8 0, .int .u32 0, .slice none 0 0, .slice none 0 0] 26)) := (Below.refl w.heap.size w).alloc (Nat.le_refl _) _
    have k0 := hR0.frozen 0
    have k1 := hR0.frozen 1
    have k2 := hR0.frozen 2
    have k3 := hR0.frozen 3
    go_wp2
    refine ret_cell rfl w.heap.size #[.int .u8 0, .int .u32 0, .slice none 0 0, .slice none 0 0] _ rfl hR0 Try.underlying26 rfl (by kernel_rfl) rfl ?_
    exact ⟨rfl, hB0⟩
end Go.Proofs.Ytofbfehpadjbbaa
