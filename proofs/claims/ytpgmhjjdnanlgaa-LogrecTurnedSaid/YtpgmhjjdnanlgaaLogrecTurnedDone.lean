/-
  LogrecTurned: for every input the law returns true, and each argument reads afterwards as it read before.
  Conditions: those of the given statement (the form's own reach).
-/
import Derived.Test.YtpgmhjjdnanlgaaFrame2
import Derived.Test.YtpgmhjjdnanlgaaLogW1
import Derived.Test.YtpgmhjjdnanlgaaLogR1
import Derived.Test.YtpgmhjjdnanlgaaLogS3
import Derived.Test.YtpgmhjjdnanlgaaLogD2
import Derived.Test.YtpgmhjjdnanlgaaLogT1
import Derived.Test.YtpgmhjjdnanlgaaLogF2
import Derived.Test.YtpgmhjjdnanlgaaFrame
/-! part -/
namespace Go.Proofs.Ytpgmhjjdnanlgaa
open Go.ChangeShapes Go.WideShapes Go.ChangeAt Go.RowKit Go.Deep
set_option linter.unusedVariables false
section
variable {H : Type} {enc : TypeId × Value → H} {w : World}
theorem rdl_u8 (fuel : Nat) (cs : List Value) (y : DataW H × List MemPlace) (h : DataW.trod enc Try.prog w 0 (fun _ => true) true fuel 5 cs = some y) : ∃ s : UInt8, cs = [B s] := by
  obtain ⟨a, i, _, w0⟩ := DataW.trod_int Try.underlying5 h
  have g1 : 0 ≤ a ∧ a ≤ 255 := by simpa [Lit.wf, IntKind.min, IntKind.max, IntKind.signed, IntKind.bits] using w0
  refine ⟨UInt8.ofNat a.toNat, ?_⟩
  rw [i]
  unfold B
  congr 2
  rw [UInt8.toNat_ofNat']
  omega
theorem bsl_flat (xs : List UInt8) : xs.flatMap (fun u => [B u]) = bs xs := by
  induction xs with
  | nil => rfl
  | cons a l ih => rw [List.flatMap_cons, ih]; rfl
abbrev ChS := { c : Nat × Nat × Nat // c.1 < 18446744073709551616 ∧ c.2.1 < 18446744073709551616 ∧ c.2.2 < 18446744073709551616 }
abbrev DtS := { d : Nat × Nat // d.1 < 4294967296 ∧ d.2 < 18446744073709551616 }
theorem chS_flat (xs : List ChS) : xs.flatMap (fun s : ChS => chC s.1) = (xs.map (·.1)).flatMap chC := by
  induction xs with
  | nil => rfl
  | cons a l ih => rw [List.flatMap_cons, ih, List.map_cons, List.flatMap_cons]
theorem dtS_flat (xs : List DtS) : xs.flatMap (fun s : DtS => dtC s.1) = (xs.map (·.1)).flatMap dtC := by
  induction xs with
  | nil => rfl
  | cons a l ih => rw [List.flatMap_cons, ih, List.map_cons, List.flatMap_cons]
theorem i64_nat2 {a : Int} {k : IntKind} {n : Nat} (h : 0 ≤ a ∧ a < n) : ∃ m : Nat, a = (m : Int) ∧ m < n := ⟨a.toNat, by omega, by omega⟩
theorem rdl_u64 {cs : List Value} {fuel : Nat} {y : DataW H × List MemPlace} (h : DataW.trod enc Try.prog w 0 (fun _ => true) true fuel 25 cs = some y) : ∃ m : Nat, cs = [.int .u64 (m : Int)] ∧ m < 18446744073709551616 := by
  obtain ⟨a, i, _, w0⟩ := DataW.trod_int Try.underlying25 h
  have g : 0 ≤ a ∧ a ≤ 18446744073709551615 := by simpa [Lit.wf, IntKind.min, IntKind.max, IntKind.signed, IntKind.bits] using w0
  exact ⟨a.toNat, by rw [i, Int.toNat_of_nonneg g.1], by omega⟩
theorem rdl_u32 {cs : List Value} {fuel : Nat} {y : DataW H × List MemPlace} (h : DataW.trod enc Try.prog w 0 (fun _ => true) true fuel 26 cs = some y) : ∃ m : Nat, cs = [.int .u32 (m : Int)] ∧ m < 4294967296 := by
  obtain ⟨a, i, _, w0⟩ := DataW.trod_int Try.underlying26 h
  have g : 0 ≤ a ∧ a ≤ 4294967295 := by simpa [Lit.wf, IntKind.min, IntKind.max, IntKind.signed, IntKind.bits] using w0
  exact ⟨a.toNat, by rw [i, Int.toNat_of_nonneg g.1], by omega⟩
theorem rdl_u16 {cs : List Value} {fuel : Nat} {y : DataW H × List MemPlace} (h : DataW.trod enc Try.prog w 0 (fun _ => true) true fuel 27 cs = some y) : ∃ m : Nat, cs = [.int .u16 (m : Int)] ∧ m < 65536 := by
  obtain ⟨a, i, _, w0⟩ := DataW.trod_int Try.underlying27 h
  have g : 0 ≤ a ∧ a ≤ 65535 := by simpa [Lit.wf, IntKind.min, IntKind.max, IntKind.signed, IntKind.bits] using w0
  exact ⟨a.toNat, by rw [i, Int.toNat_of_nonneg g.1], by omega⟩
theorem rdl_ch (fuel : Nat) (cs : List Value) (y : DataW H × List MemPlace) (h : DataW.trod enc Try.prog w 0 (fun _ => true) true fuel 54 cs = some y) : ∃ s : ChS, cs = chC s.1 := by
  obtain ⟨hl, n, hf⟩ := read_struct Try.underlying54 (by kernel_rfl) (by kernel_rfl) h
  obtain ⟨v0, z0, e0, h0⟩ := hf 0 _ rfl
  obtain ⟨v1, z1, e1, h1⟩ := hf 1 _ rfl
  obtain ⟨v2, z2, e2, h2⟩ := hf 2 _ rfl
  obtain ⟨k0, i0, b0⟩ := rdl_u64 h0
  obtain ⟨k1, i1, b1⟩ := rdl_u64 h1
  obtain ⟨k2, i2, b2⟩ := rdl_u64 h2
  simp only [List.cons.injEq, and_true] at i0 i1 i2
  subst i0 i1 i2
  match cs, hl with
  | [x0, x1, x2], _ =>
    simp at e0 e1 e2
    subst e0 e1 e2
    exact ⟨⟨(k0, k1, k2), b0, b1, b2⟩, rfl⟩
theorem rdl_dt (fuel : Nat) (cs : List Value) (y : DataW H × List MemPlace) (h : DataW.trod enc Try.prog w 0 (fun _ => true) true fuel 56 cs = some y) : ∃ s : DtS, cs = dtC s.1 := by
  obtain ⟨hl, n, hf⟩ := read_struct Try.underlying56 (by kernel_rfl) (by kernel_rfl) h
  obtain ⟨v0, z0, e0, h0⟩ := hf 0 _ rfl
  obtain ⟨v1, z1, e1, h1⟩ := hf 1 _ rfl
  obtain ⟨k0, i0, b0⟩ := rdl_u32 h0
  obtain ⟨k1, i1, b1⟩ := rdl_u64 h1
  simp only [List.cons.injEq, and_true] at i0 i1
  subst i0 i1
  match cs, hl with
  | [x0, x1], _ =>
    simp at e0 e1
    subst e0 e1
    exact ⟨⟨(k0, k1), b0, b1⟩, rfl⟩
theorem rdl_bytes {fuel : Nat} {cs : List Value} {y : DataW H × List MemPlace} (h : DataW.trod enc Try.prog w 0 (fun _ => true) true fuel 22 cs = some y) : ∃ (A : Option Addr) (c : Nat) (l : List UInt8), cs = [.slice A l.length c] ∧ Row w A (bs l) ∧ l.length ≤ c ∧ c ≤ maxLen := by
  obtain ⟨A, c, l, i, hr, hlc, hm, _⟩ := read_slice (cells := fun u => [B u]) (size := 1) (fun _ => rfl) (by omega) Try.underlying22 (by kernel_rfl) rdl_u8 h
  rw [bsl_flat] at hr
  exact ⟨A, c, l, i, hr, hlc, hm⟩
set_option maxRecDepth 100000 in
set_option maxHeartbeats 4000000 in
theorem rd_rec (fuel : Nat) (cs : List Value) (q : DataW H × List MemPlace) (h : DataW.trod enc Try.prog w 0 (fun _ => true) true fuel 31 cs = some q) : ∃ (s : Lrec) (y : Lsl), cs = (#[.int .i64 s.kind, .int .u64 (s.lsn : Int), .int .u32 (s.epoch : Int), .int .u64 (s.txn : Int), .int .u32 (s.page : Int), .int .u16 (s.off : Int), .slice y.oA y.on y.oc, .slice y.nA y.nn y.nc, .slice y.uA y.un y.uc, .int .u64 (s.prev : Int), .int .u64 (s.next : Int), .bool s.clr, .int .u64 (s.stamp : Int), .slice y.pA y.pn y.pc, .slice y.dA y.dn y.dc] : Array Value).toList ∧ LogAt w y s := by
  obtain ⟨hl, n, hf⟩ := read_struct Try.underlying31 (by kernel_rfl) (by kernel_rfl) h
  obtain ⟨v0, z0, e0, h0⟩ := hf 0 _ rfl
  obtain ⟨v1, z1, e1, h1⟩ := hf 1 _ rfl
  obtain ⟨v2, z2, e2, h2⟩ := hf 2 _ rfl
  obtain ⟨v3, z3, e3, h3⟩ := hf 3 _ rfl
  obtain ⟨v4, z4, e4, h4⟩ := hf 4 _ rfl
  obtain ⟨v5, z5, e5, h5⟩ := hf 5 _ rfl
  obtain ⟨v6, z6, e6, h6⟩ := hf 6 _ rfl
  obtain ⟨v7, z7, e7, h7⟩ := hf 7 _ rfl
  obtain ⟨v8, z8, e8, h8⟩ := hf 8 _ rfl
  obtain ⟨v9, z9, e9, h9⟩ := hf 9 _ rfl
  obtain ⟨v10, z10, e10, h10⟩ := hf 10 _ rfl
  obtain ⟨v11, z11, e11, h11⟩ := hf 11 _ rfl
  obtain ⟨v12, z12, e12, h12⟩ := hf 12 _ rfl
  obtain ⟨v13, z13, e13, h13⟩ := hf 13 _ rfl
  obtain ⟨v14, z14, e14, h14⟩ := hf 14 _ rfl
  obtain ⟨k0, i0, _, _⟩ := DataW.trod_int Try.underlying24 h0
  obtain ⟨k1, i1, b1⟩ := rdl_u64 h1
  obtain ⟨k2, i2, b2⟩ := rdl_u32 h2
  obtain ⟨k3, i3, b3⟩ := rdl_u64 h3
  obtain ⟨k4, i4, b4⟩ := rdl_u32 h4
  obtain ⟨k5, i5, b5⟩ := rdl_u16 h5
  obtain ⟨A6, c6, l6, i6, r6, lc6, m6⟩ := rdl_bytes h6
  obtain ⟨A7, c7, l7, i7, r7, lc7, m7⟩ := rdl_bytes h7
  obtain ⟨A8, c8, l8, i8, r8, lc8, m8⟩ := rdl_bytes h8
  obtain ⟨k9, i9, b9⟩ := rdl_u64 h9
  obtain ⟨k10, i10, b10⟩ := rdl_u64 h10
  obtain ⟨k11, i11, _⟩ := DataW.trod_bool Try.underlying4 h11
  obtain ⟨k12, i12, b12⟩ := rdl_u64 h12
  obtain ⟨A13, c13, l13, i13, r13, lc13, m13, _⟩ := read_slice (cells := fun s : ChS => chC s.1) (size := 3) (fun _ => rfl) (by omega) Try.underlying28 (by kernel_rfl) rdl_ch h13
  obtain ⟨A14, c14, l14, i14, r14, lc14, m14, _⟩ := read_slice (cells := fun s : DtS => dtC s.1) (size := 2) (fun _ => rfl) (by omega) Try.underlying29 (by kernel_rfl) rdl_dt h14
  rw [chS_flat] at r13
  rw [dtS_flat] at r14
  simp only [List.cons.injEq, and_true] at i0 i1 i2 i3 i4 i5 i6 i7 i8 i9 i10 i11 i12 i13 i14
  subst i0 i1 i2 i3 i4 i5 i6 i7 i8 i9 i10 i11 i12 i13 i14
  match cs, hl with
  | [x0, x1, x2, x3, x4, x5, x6, x7, x8, x9, x10, x11, x12, x13, x14], _ =>
    simp only [List.getElem?_cons_zero, List.getElem?_cons_succ, Option.some.injEq] at e0 e1 e2 e3 e4 e5 e6 e7 e8 e9 e10 e11 e12 e13 e14
    subst e0 e1 e2 e3 e4 e5 e6 e7 e8 e9 e10 e11 e12 e13 e14
    refine ⟨⟨k0, k1, k2, k3, k4, k5, l6, l7, l8, k9, k10, k11, k12, l13.map (·.1), l14.map (·.1)⟩, ⟨A6, l6.length, c6, A7, l7.length, c7, A8, l8.length, c8, A13, l13.length, c13, A14, l14.length, c14⟩, rfl,
      ⟨r6, r7, r8, r13, r14, rfl, rfl, rfl, List.length_map _, List.length_map _, ⟨lc6, m6⟩, ⟨lc7, m7⟩, ⟨lc8, m8⟩, ⟨lc13, m13⟩, ⟨lc14, m14⟩, ⟨b1, b2, b3, b4, b5, b9, b10, b12, ?_, ?_⟩⟩⟩
    · intro c hc
      obtain ⟨x, _, rfl⟩ := List.mem_map.1 hc
      exact x.2
    · intro c hc
      obtain ⟨x, _, rfl⟩ := List.mem_map.1 hc
      exact x.2
set_option maxRecDepth 100000 in
theorem read_rec {r : Reach} {b0 : Nat} {v : Value} {d : DataW H} {p : List MemPlace} (hv : Value.okWide Try.prog w r b0 31 v) (h : DataW.Trod enc Try.prog w 0 (fun _ => true) true 31 v d p) :
    ∃ (s : Lrec) (y : Lsl), v = .agg #[.int .i64 s.kind, .int .u64 (s.lsn : Int), .int .u32 (s.epoch : Int), .int .u64 (s.txn : Int), .int .u32 (s.page : Int), .int .u16 (s.off : Int), .slice y.oA y.on y.oc, .slice y.nA y.nn y.nc, .slice y.uA y.un y.uc, .int .u64 (s.prev : Int), .int .u64 (s.next : Int), .bool s.clr, .int .u64 (s.stamp : Int), .slice y.pA y.pn y.pc, .slice y.dA y.dn y.dc] ∧ LogAt w y s := by
  obtain ⟨cs, rfl, _⟩ := okWide_struct Try.underlying31 hv
  obtain ⟨fuel, hf⟩ := h
  obtain ⟨s, y, e, h1⟩ := rd_rec fuel _ _ hf
  have e' : cs.toList = (#[.int .i64 s.kind, .int .u64 (s.lsn : Int), .int .u32 (s.epoch : Int), .int .u64 (s.txn : Int), .int .u32 (s.page : Int), .int .u16 (s.off : Int), .slice y.oA y.on y.oc, .slice y.nA y.nn y.nc, .slice y.uA y.un y.uc, .int .u64 (s.prev : Int), .int .u64 (s.next : Int), .bool s.clr, .int .u64 (s.stamp : Int), .slice y.pA y.pn y.pc, .slice y.dA y.dn y.dc] : Array Value).toList := by simpa [Value.cells] using e
  refine ⟨s, y, ?_, h1⟩
  congr 1
  exact Array.ext' e'
end
end Go.Proofs.Ytpgmhjjdnanlgaa
/-! part -/
namespace Go.Proofs.Ytpgmhjjdnanlgaa
open Go.RowKit Go.Sort Go.Lib
set_option linter.unusedVariables false
set_option linter.unusedSimpArgs false
namespace LogM
def x0 : Lrec := ⟨4, 128, 0, 7, 0, 0, [], [], [], 0, 0, false, 0, [], []⟩
theorem x0_may : May x0 := by decide
theorem x0_fit : Fit x0 := ⟨by decide, by decide, by decide, by decide, by decide, by decide, by decide, by decide, nofun, nofun⟩
theorem x0_len : (form x0).length = 27 := by rw [form_length]; simp [tail, x0, CodeM.fx_length]
theorem x0_read : readI (form x0) = some (x0, 27) := by
  have := readI_form x0_may x0_fit []
  rwa [List.append_nil, x0_len] at this
end LogM
set_option maxRecDepth 100000 in
set_option maxHeartbeats 8000000 in
theorem known09_any (w : World) : Calls Try.prog 8 #[] w fun e w' => e = .returned (.bool true) ∧ Below w.heap.size w w' := by
  have HAT : Hid (∀ w', LogAt w' Lsl.z LogM.x0) := Lib.hid fun w' => (⟨Own.nil_ _ _, Own.nil_ _ _, Own.nil_ _ _, World.ownsRow_nil _ _ _ _, World.ownsRow_nil _ _ _ _, rfl, rfl, rfl, rfl, rfl⟩ : Lown w' 0 Lsl.z LogM.x0).at_ LogM.x0_fit
  go_enter Try.func8, Try.ntmps8
  have hx := Blk.new w 31 #[.int .i64 4, .int .u64 128, .int .u32 0, .int .u64 7, .int .u32 0, .int .u16 0, .slice none 0 0, .slice none 0 0, .slice none 0 0, .int .u64 0, .int .u64 0, .bool false, .int .u64 0, .slice none 0 0, .slice none 0 0]
  have hb : Below w.heap.size w (w.alloc (.cells #[.int .i64 4, .int .u64 128, .int .u32 0, .int .u64 7, .int .u32 0, .int .u16 0, .slice none 0 0, .slice none 0 0, .slice none 0 0, .int .u64 0, .int .u64 0, .bool false, .int .u64 0, .slice none 0 0, .slice none 0 0] 31)) := (Below.refl w.heap.size w).alloc (Nat.le_refl _) _
  go_upto_region 2 with fail
  generalize w.alloc (.cells #[.int .i64 4, .int .u64 128, .int .u32 0, .int .u64 7, .int .u32 0, .int .u16 0, .slice none 0 0, .slice none 0 0, .slice none 0 0, .int .u64 0, .int .u64 0, .bool false, .int .u64 0, .slice none 0 0, .slice none 0 0] 31) = V0 at *
  obtain ⟨g, hg⟩ : ∃ g, w.heap.size = g := ⟨_, rfl⟩
  rw [hg] at hx
  simp only [hg]
  have HG := Lib.hid hg
  clear hg
  go_wp2_with (refine wpl_load_row rfl _ (.tmp 1) rfl g (by go_simp) _ #[.int .i64 LogM.x0.kind, .int .u64 (LogM.x0.lsn : Int), .int .u32 (LogM.x0.epoch : Int), .int .u64 (LogM.x0.txn : Int), .int .u32 (LogM.x0.page : Int), .int .u16 (LogM.x0.off : Int), .slice Lsl.z.oA Lsl.z.on Lsl.z.oc, .slice Lsl.z.nA Lsl.z.nn Lsl.z.nc, .slice Lsl.z.uA Lsl.z.un Lsl.z.uc, .int .u64 (LogM.x0.prev : Int), .int .u64 (LogM.x0.next : Int), .bool LogM.x0.clr, .int .u64 (LogM.x0.stamp : Int), .slice Lsl.z.pA Lsl.z.pn Lsl.z.pc, .slice Lsl.z.dA Lsl.z.dn Lsl.z.dc] (0, 0) _ hx Try.underlying31 rfl (by kernel_rfl) ?_)
  go_wp2_with fail
  refine (bytes_any LogM.x0 Lsl.z V0 (HAT.out _)).mono ?_
  rintro e V1 (⟨_, A, n, c, rfl, hn, hO, hb1⟩ | ⟨hm, _, _⟩)
  rotate_left
  · exact absurd LogM.x0_may hm
  obtain rfl : 27 = n := by rw [← hn.out, LogM.x0_len]
  have hx1 := hx.below hb1 hx.lt
  have hB1 := below_step hb hb1 (Nat.le_refl _)
  have hle := hO.le
  rw [LogM.x0_len] at hle
  have hrd := read_any A 27 c (LogM.form LogM.x0) V1 hO.row LogM.x0_len hle.1 hle.2 (by omega)
  rw [LogM.x0_read] at hrd
  have HRD := Lib.hid hrd
  clear hrd hx hb hb1 hO hle hn
  go_wp2_with fail
  refine HRD.out.mono ?_
  rintro e V2 ⟨y, rfl, hl, hft, hb2⟩
  have hx2 := hx1.below hb2 hx1.lt
  have hB2 := below_step hB1 hb2 (Nat.le_refl _)
  have hy3 := Blk.new V2 31 #[.int .i64 LogM.x0.kind, .int .u64 (LogM.x0.lsn : Int), .int .u32 (LogM.x0.epoch : Int), .int .u64 (LogM.x0.txn : Int), .int .u32 (LogM.x0.page : Int), .int .u16 (LogM.x0.off : Int), .slice y.oA y.on y.oc, .slice y.nA y.nn y.nc, .slice y.uA y.un y.uc, .int .u64 (LogM.x0.prev : Int), .int .u64 (LogM.x0.next : Int), .bool LogM.x0.clr, .int .u64 (LogM.x0.stamp : Int), .slice y.pA y.pn y.pc, .slice y.dA y.dn y.dc]
  have hb3 : Below V2.heap.size V2 (V2.alloc (.cells #[.int .i64 LogM.x0.kind, .int .u64 (LogM.x0.lsn : Int), .int .u32 (LogM.x0.epoch : Int), .int .u64 (LogM.x0.txn : Int), .int .u32 (LogM.x0.page : Int), .int .u16 (LogM.x0.off : Int), .slice y.oA y.on y.oc, .slice y.nA y.nn y.nc, .slice y.uA y.un y.uc, .int .u64 (LogM.x0.prev : Int), .int .u64 (LogM.x0.next : Int), .bool LogM.x0.clr, .int .u64 (LogM.x0.stamp : Int), .slice y.pA y.pn y.pc, .slice y.dA y.dn y.dc] 31)) := (Below.refl _ _).alloc (Nat.le_refl _) _
  have hx3 := hx2.below hb3 hx2.lt
  have hB3 := below_step hB2 hb3 (Nat.le_refl _)
  have hat3 := (hl.below hb3).at_ hft
  go_upto_region 4 with fail
  generalize V2.alloc (.cells #[.int .i64 LogM.x0.kind, .int .u64 (LogM.x0.lsn : Int), .int .u32 (LogM.x0.epoch : Int), .int .u64 (LogM.x0.txn : Int), .int .u32 (LogM.x0.page : Int), .int .u16 (LogM.x0.off : Int), .slice y.oA y.on y.oc, .slice y.nA y.nn y.nc, .slice y.uA y.un y.uc, .int .u64 (LogM.x0.prev : Int), .int .u64 (LogM.x0.next : Int), .bool LogM.x0.clr, .int .u64 (LogM.x0.stamp : Int), .slice y.pA y.pn y.pc, .slice y.dA y.dn y.dc] 31) = V3 at *
  obtain ⟨gy, hgy⟩ : ∃ gy, V2.heap.size = gy := ⟨_, rfl⟩
  rw [hgy] at hy3
  simp only [hgy]
  clear hgy hx2 hB2 hb2 hb3 hl hft hx1 hB1 HRD
  have HA3 := Lib.hid hat3
  have HB3 := Lib.hid hB3
  clear hat3 hB3
  go_wp2_with (first | refine wpl_load_row rfl _ (.tmp 1) rfl g (by go_simp) _ #[.int .i64 LogM.x0.kind, .int .u64 (LogM.x0.lsn : Int), .int .u32 (LogM.x0.epoch : Int), .int .u64 (LogM.x0.txn : Int), .int .u32 (LogM.x0.page : Int), .int .u16 (LogM.x0.off : Int), .slice Lsl.z.oA Lsl.z.on Lsl.z.oc, .slice Lsl.z.nA Lsl.z.nn Lsl.z.nc, .slice Lsl.z.uA Lsl.z.un Lsl.z.uc, .int .u64 (LogM.x0.prev : Int), .int .u64 (LogM.x0.next : Int), .bool LogM.x0.clr, .int .u64 (LogM.x0.stamp : Int), .slice Lsl.z.pA Lsl.z.pn Lsl.z.pc, .slice Lsl.z.dA Lsl.z.dn Lsl.z.dc] (0, 0) _ hx3 Try.underlying31 rfl (by kernel_rfl) ?_ | refine wpl_load_row rfl _ (.tmp 4) rfl gy (by go_simp) _ #[.int .i64 LogM.x0.kind, .int .u64 (LogM.x0.lsn : Int), .int .u32 (LogM.x0.epoch : Int), .int .u64 (LogM.x0.txn : Int), .int .u32 (LogM.x0.page : Int), .int .u16 (LogM.x0.off : Int), .slice y.oA y.on y.oc, .slice y.nA y.nn y.nc, .slice y.uA y.un y.uc, .int .u64 (LogM.x0.prev : Int), .int .u64 (LogM.x0.next : Int), .bool LogM.x0.clr, .int .u64 (LogM.x0.stamp : Int), .slice y.pA y.pn y.pc, .slice y.dA y.dn y.dc] (0, 0) _ hy3 Try.underlying31 rfl (by kernel_rfl) ?_)
  refine (rsame_any LogM.x0 LogM.x0 Lsl.z y V3 (HAT.out _) HA3.out).mono ?_
  rintro e V4 ⟨r, rfl, HR, hb4⟩
  obtain rfl : r = true := HR.out.2 rfl
  go_wp2
  go_ret
  exact ⟨rfl, below_step HB3.out hb4 (Nat.le_refl _)⟩
end Go.Proofs.Ytpgmhjjdnanlgaa
/-! part -/
namespace Go.Proofs.Ytpgmhjjdnanlgaa
open Go.RowKit Go.Sort Go.Lib
set_option linter.unusedVariables false
set_option linter.unusedSimpArgs false
set_option maxRecDepth 100000 in
set_option maxHeartbeats 16000000 in
theorem logrecTurned_walk (s : Lrec) (y : Lsl) (a1 a2 : Int) (A : Option Addr) (cb : Nat) (l : List UInt8) (w : World) (hs : LogAt w y s) (wf1 : (Lit.int .i64 a1).wf = true) (wf2 : (Lit.int .u32 a2).wf = true)
    (hr : Row w A (bs l)) (hlc : l.length ≤ cb) (hcm : cb ≤ maxLen) (hl7 : l.length ≤ 140737488355328) :
    Calls Try.prog 7 #[(.agg #[.int .i64 s.kind, .int .u64 (s.lsn : Int), .int .u32 (s.epoch : Int), .int .u64 (s.txn : Int), .int .u32 (s.page : Int), .int .u16 (s.off : Int), .slice y.oA y.on y.oc, .slice y.nA y.nn y.nc, .slice y.uA y.un y.uc, .int .u64 (s.prev : Int), .int .u64 (s.next : Int), .bool s.clr, .int .u64 (s.stamp : Int), .slice y.pA y.pn y.pc, .slice y.dA y.dn y.dc]), .int .i64 a1, .int .u32 a2, .slice A l.length cb] w fun e w' => e = .returned (.bool true) ∧ Below w.heap.size w w' := by
  have g1' : -9223372036854775808 ≤ a1 ∧ a1 ≤ 9223372036854775807 := by simpa [Lit.wf, IntKind.min, IntKind.max, IntKind.signed, IntKind.bits] using wf1
  have g2' : 0 ≤ a2 ∧ a2 ≤ 4294967295 := by simpa [Lit.wf, IntKind.min, IntKind.max, IntKind.signed, IntKind.bits] using wf2
  obtain ⟨t, rfl⟩ : ∃ t : BitVec 32, a2 = (t.toNat : Int) := ⟨BitVec.ofNat 32 a2.toNat, by rw [BitVec.toNat_ofNat, Nat.mod_eq_of_lt (by omega)]; omega⟩
  have HS0 := Lib.hid hs
  have HRW := Lib.hid hr
  have HA1 := Lib.hid g1'
  obtain ⟨n, hn⟩ : ∃ n, l.length = n := ⟨_, rfl⟩
  rw [hn] at hlc hl7 ⊢
  have HN := Lib.hid hn
  clear hs hr hcm wf1 wf2 g1' g2' hn
  go_enter Try.func7, Try.ntmps7
  have hx := Blk.new w 31 #[.int .i64 s.kind, .int .u64 (s.lsn : Int), .int .u32 (s.epoch : Int), .int .u64 (s.txn : Int), .int .u32 (s.page : Int), .int .u16 (s.off : Int), .slice y.oA y.on y.oc, .slice y.nA y.nn y.nc, .slice y.uA y.un y.uc, .int .u64 (s.prev : Int), .int .u64 (s.next : Int), .bool s.clr, .int .u64 (s.stamp : Int), .slice y.pA y.pn y.pc, .slice y.dA y.dn y.dc]
  have hb0 : Below w.heap.size w (w.alloc (.cells #[.int .i64 s.kind, .int .u64 (s.lsn : Int), .int .u32 (s.epoch : Int), .int .u64 (s.txn : Int), .int .u32 (s.page : Int), .int .u16 (s.off : Int), .slice y.oA y.on y.oc, .slice y.nA y.nn y.nc, .slice y.uA y.un y.uc, .int .u64 (s.prev : Int), .int .u64 (s.next : Int), .bool s.clr, .int .u64 (s.stamp : Int), .slice y.pA y.pn y.pc, .slice y.dA y.dn y.dc] 31)) := (Below.refl w.heap.size w).alloc (Nat.le_refl _) _
  go_upto_region 1 with fail
  generalize w.alloc (.cells #[.int .i64 s.kind, .int .u64 (s.lsn : Int), .int .u32 (s.epoch : Int), .int .u64 (s.txn : Int), .int .u32 (s.page : Int), .int .u16 (s.off : Int), .slice y.oA y.on y.oc, .slice y.nA y.nn y.nc, .slice y.uA y.un y.uc, .int .u64 (s.prev : Int), .int .u64 (s.next : Int), .bool s.clr, .int .u64 (s.stamp : Int), .slice y.pA y.pn y.pc, .slice y.dA y.dn y.dc] 31) = V0 at *
  obtain ⟨g1, hg1⟩ : ∃ g1, w.heap.size = g1 := ⟨_, rfl⟩
  rw [hg1] at hx
  simp only [hg1]
  have HX0 := Lib.hid (HS0.out.below hb0)
  clear hg1 HS0
  go_wp2_with (first | (refine wpl_load_row rfl _ (.tmp 4) rfl g1 (by go_simp) _ #[.int .i64 s.kind, .int .u64 (s.lsn : Int), .int .u32 (s.epoch : Int), .int .u64 (s.txn : Int), .int .u32 (s.page : Int), .int .u16 (s.off : Int), .slice y.oA y.on y.oc, .slice y.nA y.nn y.nc, .slice y.uA y.un y.uc, .int .u64 (s.prev : Int), .int .u64 (s.next : Int), .bool s.clr, .int .u64 (s.stamp : Int), .slice y.pA y.pn y.pc, .slice y.dA y.dn y.dc] (0, 0) _ hx Try.underlying31 rfl (by kernel_rfl) ?_))
  refine (large_any s y V0 HX0.out).mono ?_
  rintro e V1 ⟨r1, rfl, HR1, hb1⟩
  have hxa := hx.below hb1 hx.lt
  have hB1 := below_step hb0 hb1 (Nat.le_refl _)
  have HXa := Lib.hid (HX0.out.below hb1)
  clear hx hb0 hb1 HX0
  clear V0
  cases r1 with
  | true =>
    go_wp2_with fail
    refine (known09_any _).mono ?_
    rintro e wz ⟨rfl, hbz⟩
    go_wp2
    go_ret
    exact ⟨rfl, below_step hB1 hbz (Nat.le_refl _)⟩
  | false =>
    clear HR1
    go_wp2_with (first | (refine wpl_load_row rfl _ (.tmp 4) rfl g1 (by go_simp) _ #[.int .i64 s.kind, .int .u64 (s.lsn : Int), .int .u32 (s.epoch : Int), .int .u64 (s.txn : Int), .int .u32 (s.page : Int), .int .u16 (s.off : Int), .slice y.oA y.on y.oc, .slice y.nA y.nn y.nc, .slice y.uA y.un y.uc, .int .u64 (s.prev : Int), .int .u64 (s.next : Int), .bool s.clr, .int .u64 (s.stamp : Int), .slice y.pA y.pn y.pc, .slice y.dA y.dn y.dc] (0, 0) _ hxa Try.underlying31 rfl (by kernel_rfl) ?_))
    refine (may_any s y V1 HXa.out).mono ?_
    rintro e V2 ⟨r2, rfl, HR2, hb2⟩
    have hxb := hxa.below hb2 hxa.lt
    have hB2 := below_step hB1 hb2 (Nat.le_refl _)
    have HXb := Lib.hid (HXa.out.below hb2)
    clear hxa hb2 hB1 HXa
    clear V1
    cases r2 with
    | false =>
      go_wp2_with fail
      refine (known09_any _).mono ?_
      rintro e wz ⟨rfl, hbz⟩
      go_wp2
      go_ret
      exact ⟨rfl, below_step hB2 hbz (Nat.le_refl _)⟩
    | true =>
      have HMAY := Lib.hid (HR2.out.1 rfl)
      clear HR2
      by_cases hbig : 5000 < n
      · have hbI : (5000 : Int) < (n : Int) := by omega
        go_wp2_with fail
        refine (known09_any _).mono ?_
        rintro e wz ⟨rfl, hbz⟩
        go_wp2
        go_ret
        exact ⟨rfl, below_step hB2 hbz (Nat.le_refl _)⟩
      have hbI : ¬ (5000 : Int) < (n : Int) := by omega
      go_wp2_with (first | (refine wpl_load_row rfl _ (.tmp 4) rfl g1 (by go_simp) _ #[.int .i64 s.kind, .int .u64 (s.lsn : Int), .int .u32 (s.epoch : Int), .int .u64 (s.txn : Int), .int .u32 (s.page : Int), .int .u16 (s.off : Int), .slice y.oA y.on y.oc, .slice y.nA y.nn y.nc, .slice y.uA y.un y.uc, .int .u64 (s.prev : Int), .int .u64 (s.next : Int), .bool s.clr, .int .u64 (s.stamp : Int), .slice y.pA y.pn y.pc, .slice y.dA y.dn y.dc] (0, 0) _ hxb Try.underlying31 rfl (by kernel_rfl) ?_))
      refine (bytes_any s y V2 HXb.out).mono ?_
      rintro e V5 (⟨_, fA, fn, fc, rfl, hfn, hfO, hb5⟩ | ⟨hm, _, _⟩)
      rotate_left
      · exact absurd HMAY.out hm
      obtain ⟨m, hm⟩ : ∃ m, (LogM.form s).length = m := ⟨_, rfl⟩
      obtain rfl : m = fn := hm.symm.trans hfn.out
      have HML := Lib.hid hm
      have hm21 : 21 ≤ m := by have h1 := LogM.form_length s; have h2 := LogM.tail_ge HMAY.out; omega
      have hm16 : m ≤ 1600 := by have h1 := LogM.form_length s; have h2 := LogM.tail_le HMAY.out; omega
      obtain ⟨gb, rfl, hgbl, hgbh⟩ := hfO.some_ (by intro q; rw [q] at hm; simp at hm; omega)
      have hB2s := hB2.size
      have hfle := hfO.le
      rw [hm] at hfle
      have HFC := Lib.hid hfle.2
      have hmfc := hfle.1
      have hx5 := hxb.below hb5 hxb.lt
      have hB5 := below_step hB2 hb5 (Nat.le_refl _)
      have HX5 := Lib.hid (HXb.out.below hb5)
      have hg1b : g1 < gb := Nat.lt_of_lt_of_le hxb.lt hgbl
      have hwgb : w.heap.size ≤ gb := Nat.le_trans hB2s hgbl
      have hr5 := HRW.out.below hB5
      have HFR := Lib.hid hfO.row
      clear hxb hB2 hb5 hm hfn hfle HXb hB2s
      clear HRW
      have hmI : ¬ (m : Int) < 21 := by omega
      go_wp2_with (at_builtin; refine wpl_app' _ rfl (.tmp 48) (.tmp 49) rfl V5.heap.size (some ⟨V5.heap.size, 0, none⟩) 0 [] 0 rfl rfl (Own.made V5 #[] 0 (Nat.le_refl _) (by unfold maxLen; omega) rfl) (some ⟨gb, 0, none⟩) fc (LogM.form s) m rfl HML.out (HFR.out.alloc _) ?_ ?_ ?_)
      · omega
      · simp
      intro A1 c1 w1 h1 hg1 hz1
      clear hz1
      have hb1 : Below V5.heap.size V5 w1 := ((Below.refl V5.heap.size V5).alloc (Nat.le_refl _) (.cells #[] 5)).grown hg1 (by simp) (by intro k hk; simp [Value.ownBlock] at hk; omega)
      have hs1 := hb1.size
      go_wp2_with (at_builtin; refine wpl_app' _ rfl (.tmp 50) (.tmp 51) rfl V5.heap.size A1 c1 (LogM.form s) m rfl HML.out h1 A cb l n rfl HN.out (hr5.below hb1) ?_ ?_ ?_)
      · omega
      · omega
      intro A2 c2 w2 h2 hg2 hz2
      clear hz2
      have hle := h2.le
      rw [List.length_append, HML.out, HN.out] at hle
      have hb2 : Below V5.heap.size V5 w2 := by
        refine Own.grown_below h1 ?_ hg2 hb1 (Nat.le_refl _) hs1
        rw [HML.out]
      have hrd := Lib.hid (read_any A2 (m + n) c2 (LogM.form s ++ l) w2 h2.row (by rw [List.length_append, HML.out, HN.out]) hle.1 hle.2 (by omega))
      rw [LogM.readI_form HMAY.out HX5.out.fit l, HML.out] at hrd
      have hx6 := hx5.below hb2 hx5.lt
      have hB6 := below_step hB5 hb2 (Nat.le_refl _)
      have HX6 := Lib.hid (HX5.out.below hb2)
      have hf6 := hfO.below hb2
      have hgb6 : gb < w2.heap.size := Nat.lt_of_lt_of_le hgbh hb2.size
      clear h1 hg1 hb1 hs1 hg2 h2 hle hx5 hB5 HX5 hfO hb2 hr5 hgbh HFR
      try clear w1
      go_wp2_with (first | (refine wp_cond_true (by go_simp) ?_) | (refine wp_cond_false (by go_simp) ?_))
      refine hrd.out.mono ?_
      rintro e V7 ⟨y1, rfl, hl7', hft, hb7⟩
      clear hrd
      have hy0 := Blk.new V7 31 #[.int .i64 s.kind, .int .u64 (s.lsn : Int), .int .u32 (s.epoch : Int), .int .u64 (s.txn : Int), .int .u32 (s.page : Int), .int .u16 (s.off : Int), .slice y1.oA y1.on y1.oc, .slice y1.nA y1.nn y1.nc, .slice y1.uA y1.un y1.uc, .int .u64 (s.prev : Int), .int .u64 (s.next : Int), .bool s.clr, .int .u64 (s.stamp : Int), .slice y1.pA y1.pn y1.pc, .slice y1.dA y1.dn y1.dc]
      have hba : Below V7.heap.size V7 (V7.alloc (.cells #[.int .i64 s.kind, .int .u64 (s.lsn : Int), .int .u32 (s.epoch : Int), .int .u64 (s.txn : Int), .int .u32 (s.page : Int), .int .u16 (s.off : Int), .slice y1.oA y1.on y1.oc, .slice y1.nA y1.nn y1.nc, .slice y1.uA y1.un y1.uc, .int .u64 (s.prev : Int), .int .u64 (s.next : Int), .bool s.clr, .int .u64 (s.stamp : Int), .slice y1.pA y1.pn y1.pc, .slice y1.dA y1.dn y1.dc] 31)) := (Below.refl _ _).alloc (Nat.le_refl _) _
      have h67 := below_step hb7 hba (Nat.le_refl _)
      have hl8 := hl7'.below hba
      go_upto_region 7 with fail
      generalize V7.alloc (.cells #[.int .i64 s.kind, .int .u64 (s.lsn : Int), .int .u32 (s.epoch : Int), .int .u64 (s.txn : Int), .int .u32 (s.page : Int), .int .u16 (s.off : Int), .slice y1.oA y1.on y1.oc, .slice y1.nA y1.nn y1.nc, .slice y1.uA y1.un y1.uc, .int .u64 (s.prev : Int), .int .u64 (s.next : Int), .bool s.clr, .int .u64 (s.stamp : Int), .slice y1.pA y1.pn y1.pc, .slice y1.dA y1.dn y1.dc] 31) = V8 at *
      obtain ⟨gy, hgy⟩ : ∃ gy, V7.heap.size = gy := ⟨_, rfl⟩
      rw [hgy] at hy0
      simp only [hgy]
      have hgby : gb < gy := by rw [← hgy]; exact Nat.lt_of_lt_of_le hgb6 hb7.size
      have hx8 := hx6.below h67 hx6.lt
      have hB8 := below_step hB6 h67 (Nat.le_refl _)
      have hf8 := hf6.below h67
      have HX8 := Lib.hid (HX6.out.below h67)
      have HY8 := Lib.hid (hl8.at_ hft)
      have hgb8 : gb < V8.heap.size := Nat.lt_of_lt_of_le hgb6 h67.size
      clear hx6 hB6 hf6 HX6 hb7 hba h67 hl7' hl8 hft hgy hgb6
      try clear V7
      obtain ⟨k, hk, hkm⟩ : ∃ k : Nat, (IntKind.u64.wrap a1).tmod (m : Int) = (k : Int) ∧ k < m := by
        have hu := IntKind.wrap_u64 a1
        have h0 : 0 ≤ IntKind.u64.wrap a1 := by rw [hu]; omega
        have h1 := Int.tmod_nonneg (m : Int) h0
        have h2 := Int.tmod_lt_of_pos (IntKind.u64.wrap a1) (show 0 < (m : Int) by omega)
        exact ⟨((IntKind.u64.wrap a1).tmod (m : Int)).toNat, by omega, by omega⟩
      obtain ⟨f0, hf0, hfm⟩ : ∃ f0 : Nat, (IntKind.u64.wrap a1).tmod ((m : Int) - 9) = (f0 : Int) ∧ f0 + 9 < m := by
        have hu := IntKind.wrap_u64 a1
        have h0 : 0 ≤ IntKind.u64.wrap a1 := by rw [hu]; omega
        have h1 := Int.tmod_nonneg ((m : Int) - 9) h0
        have h2 := Int.tmod_lt_of_pos (IntKind.u64.wrap a1) (show 0 < (m : Int) - 9 by omega)
        exact ⟨((IntKind.u64.wrap a1).tmod ((m : Int) - 9)).toNat, by omega, by omega⟩
      have HF0 := Lib.hid hf0
      clear hf0
      have hwm : IntKind.u64.wrap (m : Int) = (m : Int) := by rw [IntKind.wrap_u64]; omega
      have hwk : IntKind.i64.wrap (k : Int) = (k : Int) := by rw [IntKind.wrap_i64]; omega
      have hm0 : ¬ (m : Int) = 0 := by omega
      have hkfc : ¬ fc < k := by omega
      have hrd := Lib.hid (read_any (some ⟨gb, 0, none⟩) k fc ((LogM.form s).take k) V8 (by rw [bs_take]; exact hf8.row.take k) (by rw [List.length_take, HML.out]; omega) (by omega) HFC.out (by omega))
      rw [LogM.readI_cut HMAY.out (by rw [HML.out]; exact hkm)] at hrd
      go_wp2_with (first | (refine wp_cond_true (by go_simp) ?_) | (refine wp_cond_false (by go_simp) ?_))
      refine hrd.out.mono ?_
      rintro e V9 ⟨rfl, hb9⟩
      have hba : Below V9.heap.size V9 (V9.alloc (.cells #[.int .i64 0, .int .u64 0, .int .u32 0, .int .u64 0, .int .u32 0, .int .u16 0, .slice none 0 0, .slice none 0 0, .slice none 0 0, .int .u64 0, .int .u64 0, .bool false, .int .u64 0, .slice none 0 0, .slice none 0 0] 31)) := (Below.refl _ _).alloc (Nat.le_refl _) _
      have h89 := below_step hb9 hba (Nat.le_refl _)
      go_upto_region 8 with fail
      generalize V9.alloc (.cells #[.int .i64 0, .int .u64 0, .int .u32 0, .int .u64 0, .int .u32 0, .int .u16 0, .slice none 0 0, .slice none 0 0, .slice none 0 0, .int .u64 0, .int .u64 0, .bool false, .int .u64 0, .slice none 0 0, .slice none 0 0] 31) = Va at *
      have hxa := hx8.below h89 hx8.lt
      have hya := hy0.below h89 hy0.lt
      have hBa := below_step hB8 h89 (Nat.le_refl _)
      have hfa := hf8.below h89
      have HXA := Lib.hid (HX8.out.below h89)
      have HYA := Lib.hid (HY8.out.below h89)
      have hgba : gb < Va.heap.size := Nat.lt_of_lt_of_le hgb8 h89.size
      clear hrd hk hwm hwk hm0 hkfc hb9 hba h89 hx8 hy0 hB8 hf8 HX8 HY8 hgb8
      try clear V9
      go_wp2_with (first | (refine wpl_load_row rfl _ (.tmp 4) rfl g1 (by go_simp) _ #[.int .i64 s.kind, .int .u64 (s.lsn : Int), .int .u32 (s.epoch : Int), .int .u64 (s.txn : Int), .int .u32 (s.page : Int), .int .u16 (s.off : Int), .slice y.oA y.on y.oc, .slice y.nA y.nn y.nc, .slice y.uA y.un y.uc, .int .u64 (s.prev : Int), .int .u64 (s.next : Int), .bool s.clr, .int .u64 (s.stamp : Int), .slice y.pA y.pn y.pc, .slice y.dA y.dn y.dc] (0, 0) _ hxa Try.underlying31 rfl (by kernel_rfl) ?_) | (refine wpl_load_row rfl _ (.tmp 11) rfl gy (by go_simp) _ #[.int .i64 s.kind, .int .u64 (s.lsn : Int), .int .u32 (s.epoch : Int), .int .u64 (s.txn : Int), .int .u32 (s.page : Int), .int .u16 (s.off : Int), .slice y1.oA y1.on y1.oc, .slice y1.nA y1.nn y1.nc, .slice y1.uA y1.un y1.uc, .int .u64 (s.prev : Int), .int .u64 (s.next : Int), .bool s.clr, .int .u64 (s.stamp : Int), .slice y1.pA y1.pn y1.pc, .slice y1.dA y1.dn y1.dc] (0, 0) _ hya Try.underlying31 rfl (by kernel_rfl) ?_) | (refine wp_cond_true (by go_simp) ?_) | (refine wp_cond_false (by go_simp) ?_))
      refine (same_any s s y y1 Va HXA.out HYA.out).mono ?_
      rintro e Vb ⟨r, rfl, HR, hbb⟩
      obtain rfl : r = true := HR.out.2 rfl
      have hBb := below_step hBa hbb (Nat.le_refl _)
      have hfb := hfa.below hbb
      have hgbb : gb < Vb.heap.size := Nat.lt_of_lt_of_le hgba hbb.size
      clear hxa hya hBa hfa HXA HYA hgba HR hbb
      try clear Va
      by_cases ht0 : t.toNat = 0
      · have htI : (t.toNat : Int) = 0 := by omega
        have htB : ((t.toNat : Int) == 0) = true := by rw [htI]; rfl
        go_wp2_with fail
        refine (known09_any _).mono ?_
        rintro e wz ⟨rfl, hbz⟩
        go_wp2
        go_ret
        exact ⟨rfl, below_step hBb hbz (Nat.le_refl _)⟩
      have htI : ¬ (t.toNat : Int) = 0 := by omega
      have htB : ((t.toNat : Int) == 0) = false := beq_eq_false_iff_ne.2 htI
      have HT0 : Hid (t ≠ 0#32) := Lib.hid (fun q => ht0 (by rw [q]; rfl))
      have hwm9 : IntKind.u64.wrap ((m : Int) - 9) = (m : Int) - 9 := by rw [IntKind.wrap_u64]; omega
      have hwm9' : IntKind.i64.wrap ((m : Int) - 9) = (m : Int) - 9 := by rw [IntKind.wrap_i64]; omega
      have hwf : IntKind.i64.wrap (f0 : Int) = (f0 : Int) := by rw [IntKind.wrap_i64]; omega
      obtain ⟨ff, hff⟩ : ∃ ff, 6 + f0 = ff := ⟨_, rfl⟩
      have hff6 : 6 ≤ ff ∧ ff + 4 ≤ m := by omega
      have hwf6 : IntKind.i64.wrap (6 + (f0 : Int)) = (ff : Int) := by rw [IntKind.wrap_i64]; omega
      have hwf6' : (6 + (f0 : Int)) = (ff : Int) := by omega
      clear hff
      have hm90 : ¬ (m : Int) - 9 = 0 := by omega
      have hf0 := HF0.out
      go_wp2_with (first | (refine wp_cond_true (by go_simp) ?_) | (refine wp_cond_false (by go_simp) ?_))
      clear hwm9 hwm9' hwf hwf6 hwf6' hm90 hf0 HF0 htI htB ht0
      go_loopw [18] (fun i wr => ∃ (q : Nat) (lf : List UInt8), i = .int .i64 (q : Int) ∧ q ≤ 4 ∧ lf.length = m ∧ Own wr V2.heap.size (some ⟨gb, 0, none⟩) fc lf ∧ Vb.grownBy wr (some gb) ∧ (∀ j, lf[j]? = if ff ≤ j ∧ j < ff + q then ((LogM.form s)[j]?).map (fun u => u ^^^ UInt8.ofNat (t.toNat / 2 ^ (8 * (j - ff)))) else (LogM.form s)[j]?)) (fun i _ => 4 - (RowKit.intOf i).toNat)
      case atStart => exact ⟨0, LogM.form s, rfl, by omega, HML.out, hfb, World.grownBy.refl _ _, fun j => by rw [if_neg (by omega)]⟩
      case round =>
        clear hfb
        obtain ⟨q, lf, rfl, hq, hlf, hO, hg, hall⟩ := hrel
        by_cases hlt : q < 4
        · as_aux_lemma =>
          obtain ⟨u, hu⟩ : ∃ u, lf[ff + q]? = some u := ⟨_, List.getElem?_eq_getElem (by omega)⟩
          have hcell := hO.cell hu
          have hfz := hO.frozen (ff + q)
          have hwi : IntKind.i64.wrap ((ff : Int) + (q : Int)) = ((ff + q : Nat) : Int) := by rw [IntKind.wrap_i64]; omega
          have hw8 : IntKind.i64.wrap (8 * (q : Int)) = ((8 * q : Nat) : Int) := by rw [IntKind.wrap_i64]; omega
          have hw8u : IntKind.u64.wrap ((8 * q : Nat) : Int) = ((8 * q : Nat) : Int) := by rw [IntKind.wrap_u64]; omega
          obtain ⟨v, hv⟩ : ∃ v, UInt8.ofNat (t.toNat / 2 ^ (8 * q)) = v := ⟨_, rfl⟩
          have hwv : IntKind.u8.wrap ((t.toNat : Int) / 2 ^ (8 * q)) = (v.toNat : Int) := by
            rw [IntKind.wrap_u8, ← hv, UInt8.toNat_ofNat']
            have : ((t.toNat : Int) / 2 ^ (8 * q)) = ((t.toNat / 2 ^ (8 * q) : Nat) : Int) := by simp
            rw [this]
            omega
          obtain ⟨x, hx⟩ : ∃ x, u ^^^ v = x := ⟨_, rfl⟩
          have hxx : bits .xor .u8 (u.toNat : Int) (v.toNat : Int) = (x.toNat : Int) := by rw [xor_u8, hx]
          have hidx : ¬ m ≤ ff + q := by omega
          have hidx2 : ff + q < m := by omega
          have HALL : Hid (∀ j, (lf.set (ff + q) x)[j]? = if ff ≤ j ∧ j < ff + (q + 1) then ((LogM.form s)[j]?).map (fun u => u ^^^ UInt8.ofNat (t.toNat / 2 ^ (8 * (j - ff)))) else (LogM.form s)[j]?) := Lib.hid fun j => by
            rw [List.getElem?_set]
            by_cases hj : ff + q = j
            · subst hj
              have h1 := hall (ff + q)
              rw [if_neg (by omega), hu] at h1
              rw [if_pos rfl, if_pos (by omega), if_pos (by omega), ← h1, Option.map_some, show ff + q - ff = q by omega, hv, hx]
            · rw [if_neg hj, hall j]
              by_cases hc : ff ≤ j ∧ j < ff + q
              · rw [if_pos hc, if_pos (by omega)]
              · rw [if_neg hc, if_neg (by omega)]
          have HO := Lib.hid (And.intro hO hg)
          have HLF := Lib.hid hlf
          clear hO hg hlf hu hall hv hx
          go_wp2
          go_roundw
          case rel => exact ⟨q + 1, lf.set (ff + q) x, by go_num, by omega, by rw [List.length_set]; exact HLF.out, HO.out.1.set_ (ff + q) x, HO.out.2.trans (grownBy_setCell wr gb (ff + q) _), HALL.out⟩
          case measure => simp [RowKit.intOf]; omega
        · obtain rfl : q = 4 := by omega
          have hBr := below_grown hBb hg hBb.size hwgb
          have hrd := Lib.hid (read_any (some ⟨gb, 0, none⟩) m fc lf wr hO.row hlf hmfc HFC.out (by omega))
          rw [LogM.turned_none HMAY.out HT0.out (by rw [hlf, HML.out]) (show 6 ≤ ff by omega) (by rw [HML.out]; omega) hall] at hrd
          clear hall hO hg hlf
          go_wp2_with (first | (refine wp_cond_true (by go_simp) ?_) | (refine wp_cond_false (by go_simp) ?_))
          refine hrd.out.mono ?_
          rintro e Vc ⟨rfl, hbc⟩
          have hba : Below Vc.heap.size Vc (Vc.alloc (.cells #[.int .i64 0, .int .u64 0, .int .u32 0, .int .u64 0, .int .u32 0, .int .u16 0, .slice none 0 0, .slice none 0 0, .slice none 0 0, .int .u64 0, .int .u64 0, .bool false, .int .u64 0, .slice none 0 0, .slice none 0 0] 31)) := (Below.refl _ _).alloc (Nat.le_refl _) _
          have hBc := below_step hBr (below_step hbc hba (Nat.le_refl _)) (Nat.le_refl _)
          clear hrd hbc hba hBr
          go_wp2_with fail
          refine (known09_any _).mono ?_
          rintro e wz ⟨rfl, hbz⟩
          go_wp2
          go_ret
          exact ⟨rfl, below_step hBc hbz (Nat.le_refl _)⟩

end Go.Proofs.Ytpgmhjjdnanlgaa
/-! part -/
namespace Go.Proofs.Ytpgmhjjdnanlgaa.logrecTurned
open Go.ChangeShapes Go.WideShapes Go.ChangeAt Go.RowKit
set_option linter.unusedVariables false
set_option maxRecDepth 100000 in
theorem lifted (os : Os) (started : os.Started) (H : Type) (enc : TypeId × Value → H) :
    ReturnsInHanded {} Try.checked os 7 .any (Rows.logrecTurnedSpec.pre6 enc Try.prog Try.f7 Rows.logrecTurnedRow.domain false) (Rows.logrecTurnedSpec.post enc Try.prog Try.f7 false true false false) := by
  refine returnsInHanded_of_change_sized (C := Try.checked) own started (by kernel_rfl) Try.func7
    (ChangeSpec.witness6 (enc := enc) (C := Try.checked) false ⟨#[], #[.agg #[.int .i64 0, .int .u64 0, .int .u32 0, .int .u64 0, .int .u32 0, .int .u16 0, .slice none 0 0, .slice none 0 0, .slice none 0 0, .int .u64 0, .int .u64 0, .bool false, .int .u64 0, .slice none 0 0, .slice none 0 0], .int .i64 0, .int .u32 0, .slice none 0 0], []⟩ 8 (by kernel_rfl) (by kernel_rfl) (by kernel_rfl) (by kernel_rfl)) ?_
  intro W base args ds gs before hval0 hW _ hsz0 _
  have hsz : (DataW.weightsEach Try.prog (Try.f7.params.toList ++ Rows.logrecTurnedSpec.plain.varTypes Try.prog) (ds ++ gs)).all (· ≤ reachBytes) = true := hsz0
  clear hsz0
  have hval : ∀ (j : Nat) t v, Try.f7.params[j]? = some t → args[j]? = some v → Value.okWide Try.prog W .any base t v := hval0
  have hW' := hW
  obtain ⟨p, q, hA0, hV, rfl, hfz, hnd⟩ := hW
  have hA : DataW.TrodAll enc Try.prog W 0 (fun _ => true) true Try.f7.params.toList args.toList ds p := hA0
  rw [Try.params7] at hA hval hsz
  obtain ⟨v0, vs0, d0, ds0, p0, q0, hargs, rfl, rfl, h0, r_0⟩ := trodAll_cons hA
  obtain ⟨v1, vs1, d1, ds1, p1, q1, rfl, rfl, rfl, h1, r_1⟩ := trodAll_cons r_0
  obtain ⟨v2, vs2, d2, ds2, p2, q2, rfl, rfl, rfl, h2, r_2⟩ := trodAll_cons r_1
  obtain ⟨v3, vs3, d3, ds3, p3, q3, rfl, rfl, rfl, h3, r_3⟩ := trodAll_cons r_2
  obtain ⟨rfl, rfl, rfl⟩ := trodAll_nil r_3
  obtain rfl : args = #[v0, v1, v2, v3] := by cases args; simp_all
  obtain ⟨rfl, rfl⟩ := trodVars_none hV
  have k0 := h0
  have lt0 : ∀ x ∈ p0, x.block < W.heap.size := by obtain ⟨m, hm⟩ := k0; exact DataW.trod_lt m _ _ _ hm
  obtain ⟨s0, y0, rfl, a0⟩ := read_rec (hval 0 31 v0 rfl rfl) h0
  obtain ⟨a1, rfl, rfl, rfl, w1⟩ := open_int Try.underlying3 (hval 1 3 v1 rfl rfl) h1
  obtain ⟨a2, rfl, rfl, rfl, w2⟩ := open_int Try.underlying26 (hval 2 26 v2 rfl rfl) h2
  have k3 := h3
  have lt3 : ∀ x ∈ p3, x.block < W.heap.size := by obtain ⟨m, hm⟩ := k3; exact DataW.trod_lt m _ _ _ hm
  obtain ⟨A3, c3, l3, rfl, r3, hc3, hcx3, hz3⟩ := read_bytes Try.underlying22 Try.underlying5 (by kernel_rfl) (hval 3 22 v3 rfl rfl) h3
  have hm3 := reach_slice hsz (j := 3) (bytes := 1) rfl rfl Try.underlying22 (by kernel_rfl) hz3
  clear hA0 hval0
  refine (logrecTurned_walk s0 y0 a1 a2 A3 c3 l3 W a0 w1 w2 r3 hc3 hcx3 (by omega)).mono fun e W' ⟨he, bel⟩ => ?_
  subst he
  exact ⟨_, rfl, _, _, _, [], _, [], hW', trodAll_mk1 (shut_bool Try.underlying4 _), (trodAll_cons_mk (Below.trod laidOut (by kernel_rfl) (of_decide_eq_true (by kernel_rfl)) k0 bel lt0) (trodAll_cons_mk (shut_int Try.underlying3 w1) (trodAll_cons_mk (shut_int Try.underlying26 w2) (trodAll_cons_mk (Below.trod laidOut (by kernel_rfl) (of_decide_eq_true (by kernel_rfl)) k3 bel lt3) trodAll_mk0)))), rfl, bel.frame _, fun h => by cases h⟩

theorem over : Rows.logrecTurnedRow.holds Try.pinned (OpenSpec.ofChange Rows.logrecTurnedSpec) :=
  OpenClaim.holds_of_wide 7 Try.f7 rfl rfl rfl rfl rfl rfl rfl ⟨rfl, rfl, rfl, rfl, rfl⟩ rfl rfl rfl rfl rfl (by kernel_rfl) Try.func7 (by kernel_rfl)
    (of_decide_eq_true (by kernel_rfl)) (by unfold Func.isWrapper; rw [if_neg (of_decide_eq_false (by kernel_rfl))]; exact ⟨rfl, rfl⟩)
    (fun os started H enc _ => lifted os started H enc)

/-- The statement. -/
theorem proved : Rows.LogrecTurnedSaid := over
#print axioms proved
end Go.Proofs.Ytpgmhjjdnanlgaa.logrecTurned
