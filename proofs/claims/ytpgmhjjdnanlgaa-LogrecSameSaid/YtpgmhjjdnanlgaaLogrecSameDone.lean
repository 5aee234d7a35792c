/-
  LogrecSame: for every input the law returns true, and each argument reads afterwards as it read before.
  Conditions: those of the given statement (the form's own reach).
-/
import Derived.Test.YtpgmhjjdnanlgaaFrame2
import Derived.Test.YtpgmhjjdnanlgaaLogW1
import Derived.Test.YtpgmhjjdnanlgaaLogR1
import Derived.Test.YtpgmhjjdnanlgaaLogS3
import Derived.Test.YtpgmhjjdnanlgaaLogD2
import Derived.Test.YtpgmhjjdnanlgaaLogC1
import Derived.Test.YtpgmhjjdnanlgaaLogB2
import Derived.Test.YtpgmhjjdnanlgaaFrame
/-! part -/
namespace Go.Proofs.Ytpgmhjjdnanlgaa
open Go.ChangeShapes Go.WideShapes Go.ChangeAt Go.RowKit Go.Deep
set_option linter.unusedVariables false
section
variable {H : Type} {enc : TypeId × Value → H} {w : World}
theorem rdl_u8 (fuel : Nat) (cs : List Value) (y : DataW H × List MemPlace) (h : DataW.trod enc Try.prog w 0 (fun _ => true) true fuel 5 cs = some y) : ∃ s : UInt8, cs = [B s] := by
  obtain ⟨a, i, _, w0⟩ := DataW.trod_int Try.underlying5 h
  have g1 : 0 ≤ a ∧ a ≤ 255 := by simpa [Lit.wf, IntKind.min, IntKind.max, IntKind.signed, IntKind.bits] using w0
  refine ⟨UInt8.ofNat a.toNat, ?_⟩
  rw [i]
  unfold B
  congr 2
  rw [UInt8.toNat_ofNat']
  omega
theorem bsl_flat (xs : List UInt8) : xs.flatMap (fun u => [B u]) = bs xs := by
  induction xs with
  | nil => rfl
  | cons a l ih => rw [List.flatMap_cons, ih]; rfl
abbrev ChS := { c : Nat × Nat × Nat // c.1 < 18446744073709551616 ∧ c.2.1 < 18446744073709551616 ∧ c.2.2 < 18446744073709551616 }
abbrev DtS := { d : Nat × Nat // d.1 < 4294967296 ∧ d.2 < 18446744073709551616 }
theorem chS_flat (xs : List ChS) : xs.flatMap (fun s : ChS => chC s.1) = (xs.map (·.1)).flatMap chC := by
  induction xs with
  | nil => rfl
  | cons a l ih => rw [List.flatMap_cons, ih, List.map_cons, List.flatMap_cons]
theorem dtS_flat (xs : List DtS) : xs.flatMap (fun s : DtS => dtC s.1) = (xs.map (·.1)).flatMap dtC := by
  induction xs with
  | nil => rfl
  | cons a l ih => rw [List.flatMap_cons, ih, List.map_cons, List.flatMap_cons]
theorem i64_nat2 {a : Int} {k : IntKind} {n : Nat} (h : 0 ≤ a ∧ a < n) : ∃ m : Nat, a = (m : Int) ∧ m < n := ⟨a.toNat, by omega, by omega⟩
theorem rdl_u64 {cs : List Value} {fuel : Nat} {y : DataW H × List MemPlace} (h : DataW.trod enc Try.prog w 0 (fun _ => true) true fuel 25 cs = some y) : ∃ m : Nat, cs = [.int .u64 (m : Int)] ∧ m < 18446744073709551616 := by
  obtain ⟨a, i, _, w0⟩ := DataW.trod_int Try.underlying25 h
  have g : 0 ≤ a ∧ a ≤ 18446744073709551615 := by simpa [Lit.wf, IntKind.min, IntKind.max, IntKind.signed, IntKind.bits] using w0
  exact ⟨a.toNat, by rw [i, Int.toNat_of_nonneg g.1], by omega⟩
theorem rdl_u32 {cs : List Value} {fuel : Nat} {y : DataW H × List MemPlace} (h : DataW.trod enc Try.prog w 0 (fun _ => true) true fuel 26 cs = some y) : ∃ m : Nat, cs = [.int .u32 (m : Int)] ∧ m < 4294967296 := by
  obtain ⟨a, i, _, w0⟩ := DataW.trod_int Try.underlying26 h
  have g : 0 ≤ a ∧ a ≤ 4294967295 := by simpa [Lit.wf, IntKind.min, IntKind.max, IntKind.signed, IntKind.bits] using w0
  exact ⟨a.toNat, by rw [i, Int.toNat_of_nonneg g.1], by omega⟩
theorem rdl_u16 {cs : List Value} {fuel : Nat} {y : DataW H × List MemPlace} (h : DataW.trod enc Try.prog w 0 (fun _ => true) true fuel 27 cs = some y) : ∃ m : Nat, cs = [.int .u16 (m : Int)] ∧ m < 65536 := by
  obtain ⟨a, i, _, w0⟩ := DataW.trod_int Try.underlying27 h
  have g : 0 ≤ a ∧ a ≤ 65535 := by simpa [Lit.wf, IntKind.min, IntKind.max, IntKind.signed, IntKind.bits] using w0
  exact ⟨a.toNat, by rw [i, Int.toNat_of_nonneg g.1], by omega⟩
theorem rdl_ch (fuel : Nat) (cs : List Value) (y : DataW H × List MemPlace) (h : DataW.trod enc Try.prog w 0 (fun _ => true) true fuel 54 cs = some y) : ∃ s : ChS, cs = chC s.1 := by
  obtain ⟨hl, n, hf⟩ := read_struct Try.underlying54 (by kernel_rfl) (by kernel_rfl) h
  obtain ⟨v0, z0, e0, h0⟩ := hf 0 _ rfl
  obtain ⟨v1, z1, e1, h1⟩ := hf 1 _ rfl
  obtain ⟨v2, z2, e2, h2⟩ := hf 2 _ rfl
  obtain ⟨k0, i0, b0⟩ := rdl_u64 h0
  obtain ⟨k1, i1, b1⟩ := rdl_u64 h1
  obtain ⟨k2, i2, b2⟩ := rdl_u64 h2
  simp only [List.cons.injEq, and_true] at i0 i1 i2
  subst i0 i1 i2
  match cs, hl with
  | [x0, x1, x2], _ =>
    simp at e0 e1 e2
    subst e0 e1 e2
    exact ⟨⟨(k0, k1, k2), b0, b1, b2⟩, rfl⟩
theorem rdl_dt (fuel : Nat) (cs : List Value) (y : DataW H × List MemPlace) (h : DataW.trod enc Try.prog w 0 (fun _ => true) true fuel 56 cs = some y) : ∃ s : DtS, cs = dtC s.1 := by
  obtain ⟨hl, n, hf⟩ := read_struct Try.underlying56 (by kernel_rfl) (by kernel_rfl) h
  obtain ⟨v0, z0, e0, h0⟩ := hf 0 _ rfl
  obtain ⟨v1, z1, e1, h1⟩ := hf 1 _ rfl
  obtain ⟨k0, i0, b0⟩ := rdl_u32 h0
  obtain ⟨k1, i1, b1⟩ := rdl_u64 h1
  simp only [List.cons.injEq, and_true] at i0 i1
  subst i0 i1
  match cs, hl with
  | [x0, x1], _ =>
    simp at e0 e1
    subst e0 e1
    exact ⟨⟨(k0, k1), b0, b1⟩, rfl⟩
theorem rdl_bytes {fuel : Nat} {cs : List Value} {y : DataW H × List MemPlace} (h : DataW.trod enc Try.prog w 0 (fun _ => true) true fuel 22 cs = some y) : ∃ (A : Option Addr) (c : Nat) (l : List UInt8), cs = [.slice A l.length c] ∧ Row w A (bs l) ∧ l.length ≤ c ∧ c ≤ maxLen := by
  obtain ⟨A, c, l, i, hr, hlc, hm, _⟩ := read_slice (cells := fun u => [B u]) (size := 1) (fun _ => rfl) (by omega) Try.underlying22 (by kernel_rfl) rdl_u8 h
  rw [bsl_flat] at hr
  exact ⟨A, c, l, i, hr, hlc, hm⟩
set_option maxRecDepth 100000 in
set_option maxHeartbeats 4000000 in
theorem rd_rec (fuel : Nat) (cs : List Value) (q : DataW H × List MemPlace) (h : DataW.trod enc Try.prog w 0 (fun _ => true) true fuel 31 cs = some q) : ∃ (s : Lrec) (y : Lsl), cs = (#[.int .i64 s.kind, .int .u64 (s.lsn : Int), .int .u32 (s.epoch : Int), .int .u64 (s.txn : Int), .int .u32 (s.page : Int), .int .u16 (s.off : Int), .slice y.oA y.on y.oc, .slice y.nA y.nn y.nc, .slice y.uA y.un y.uc, .int .u64 (s.prev : Int), .int .u64 (s.next : Int), .bool s.clr, .int .u64 (s.stamp : Int), .slice y.pA y.pn y.pc, .slice y.dA y.dn y.dc] : Array Value).toList ∧ LogAt w y s := by
  obtain ⟨hl, n, hf⟩ := read_struct Try.underlying31 (by kernel_rfl) (by kernel_rfl) h
  obtain ⟨v0, z0, e0, h0⟩ := hf 0 _ rfl
  obtain ⟨v1, z1, e1, h1⟩ := hf 1 _ rfl
  obtain ⟨v2, z2, e2, h2⟩ := hf 2 _ rfl
  obtain ⟨v3, z3, e3, h3⟩ := hf 3 _ rfl
  obtain ⟨v4, z4, e4, h4⟩ := hf 4 _ rfl
  obtain ⟨v5, z5, e5, h5⟩ := hf 5 _ rfl
  obtain ⟨v6, z6, e6, h6⟩ := hf 6 _ rfl
  obtain ⟨v7, z7, e7, h7⟩ := hf 7 _ rfl
  obtain ⟨v8, z8, e8, h8⟩ := hf 8 _ rfl
  obtain ⟨v9, z9, e9, h9⟩ := hf 9 _ rfl
  obtain ⟨v10, z10, e10, h10⟩ := hf 10 _ rfl
  obtain ⟨v11, z11, e11, h11⟩ := hf 11 _ rfl
  obtain ⟨v12, z12, e12, h12⟩ := hf 12 _ rfl
  obtain ⟨v13, z13, e13, h13⟩ := hf 13 _ rfl
  obtain ⟨v14, z14, e14, h14⟩ := hf 14 _ rfl
  obtain ⟨k0, i0, _, _⟩ := DataW.trod_int Try.underlying24 h0
  obtain ⟨k1, i1, b1⟩ := rdl_u64 h1
  obtain ⟨k2, i2, b2⟩ := rdl_u32 h2
  obtain ⟨k3, i3, b3⟩ := rdl_u64 h3
  obtain ⟨k4, i4, b4⟩ := rdl_u32 h4
  obtain ⟨k5, i5, b5⟩ := rdl_u16 h5
  obtain ⟨A6, c6, l6, i6, r6, lc6, m6⟩ := rdl_bytes h6
  obtain ⟨A7, c7, l7, i7, r7, lc7, m7⟩ := rdl_bytes h7
  obtain ⟨A8, c8, l8, i8, r8, lc8, m8⟩ := rdl_bytes h8
  obtain ⟨k9, i9, b9⟩ := rdl_u64 h9
  obtain ⟨k10, i10, b10⟩ := rdl_u64 h10
  obtain ⟨k11, i11, _⟩ := DataW.trod_bool Try.underlying4 h11
  obtain ⟨k12, i12, b12⟩ := rdl_u64 h12
  obtain ⟨A13, c13, l13, i13, r13, lc13, m13, _⟩ := read_slice (cells := fun s : ChS => chC s.1) (size := 3) (fun _ => rfl) (by omega) Try.underlying28 (by kernel_rfl) rdl_ch h13
  obtain ⟨A14, c14, l14, i14, r14, lc14, m14, _⟩ := read_slice (cells := fun s : DtS => dtC s.1) (size := 2) (fun _ => rfl) (by omega) Try.underlying29 (by kernel_rfl) rdl_dt h14
  rw [chS_flat] at r13
  rw [dtS_flat] at r14
  simp only [List.cons.injEq, and_true] at i0 i1 i2 i3 i4 i5 i6 i7 i8 i9 i10 i11 i12 i13 i14
  subst i0 i1 i2 i3 i4 i5 i6 i7 i8 i9 i10 i11 i12 i13 i14
  match cs, hl with
  | [x0, x1, x2, x3, x4, x5, x6, x7, x8, x9, x10, x11, x12, x13, x14], _ =>
    simp only [List.getElem?_cons_zero, List.getElem?_cons_succ, Option.some.injEq] at e0 e1 e2 e3 e4 e5 e6 e7 e8 e9 e10 e11 e12 e13 e14
    subst e0 e1 e2 e3 e4 e5 e6 e7 e8 e9 e10 e11 e12 e13 e14
    refine ⟨⟨k0, k1, k2, k3, k4, k5, l6, l7, l8, k9, k10, k11, k12, l13.map (·.1), l14.map (·.1)⟩, ⟨A6, l6.length, c6, A7, l7.length, c7, A8, l8.length, c8, A13, l13.length, c13, A14, l14.length, c14⟩, rfl,
      ⟨r6, r7, r8, r13, r14, rfl, rfl, rfl, List.length_map _, List.length_map _, ⟨lc6, m6⟩, ⟨lc7, m7⟩, ⟨lc8, m8⟩, ⟨lc13, m13⟩, ⟨lc14, m14⟩, ⟨b1, b2, b3, b4, b5, b9, b10, b12, ?_, ?_⟩⟩⟩
    · intro c hc
      obtain ⟨x, _, rfl⟩ := List.mem_map.1 hc
      exact x.2
    · intro c hc
      obtain ⟨x, _, rfl⟩ := List.mem_map.1 hc
      exact x.2
set_option maxRecDepth 100000 in
theorem read_rec {r : Reach} {b0 : Nat} {v : Value} {d : DataW H} {p : List MemPlace} (hv : Value.okWide Try.prog w r b0 31 v) (h : DataW.Trod enc Try.prog w 0 (fun _ => true) true 31 v d p) :
    ∃ (s : Lrec) (y : Lsl), v = .agg #[.int .i64 s.kind, .int .u64 (s.lsn : Int), .int .u32 (s.epoch : Int), .int .u64 (s.txn : Int), .int .u32 (s.page : Int), .int .u16 (s.off : Int), .slice y.oA y.on y.oc, .slice y.nA y.nn y.nc, .slice y.uA y.un y.uc, .int .u64 (s.prev : Int), .int .u64 (s.next : Int), .bool s.clr, .int .u64 (s.stamp : Int), .slice y.pA y.pn y.pc, .slice y.dA y.dn y.dc] ∧ LogAt w y s := by
  obtain ⟨cs, rfl, _⟩ := okWide_struct Try.underlying31 hv
  obtain ⟨fuel, hf⟩ := h
  obtain ⟨s, y, e, h1⟩ := rd_rec fuel _ _ hf
  have e' : cs.toList = (#[.int .i64 s.kind, .int .u64 (s.lsn : Int), .int .u32 (s.epoch : Int), .int .u64 (s.txn : Int), .int .u32 (s.page : Int), .int .u16 (s.off : Int), .slice y.oA y.on y.oc, .slice y.nA y.nn y.nc, .slice y.uA y.un y.uc, .int .u64 (s.prev : Int), .int .u64 (s.next : Int), .bool s.clr, .int .u64 (s.stamp : Int), .slice y.pA y.pn y.pc, .slice y.dA y.dn y.dc] : Array Value).toList := by simpa [Value.cells] using e
  refine ⟨s, y, ?_, h1⟩
  congr 1
  exact Array.ext' e'
end
end Go.Proofs.Ytpgmhjjdnanlgaa
/-! part -/
namespace Go.Proofs.Ytpgmhjjdnanlgaa
open Go.RowKit Go.Sort Go.Lib
set_option linter.unusedVariables false
set_option linter.unusedSimpArgs false
namespace LogM
def x0 : Lrec := ⟨4, 128, 0, 7, 0, 0, [], [], [], 0, 0, false, 0, [], []⟩
theorem x0_may : May x0 := by decide
theorem x0_fit : Fit x0 := ⟨by decide, by decide, by decide, by decide, by decide, by decide, by decide, by decide, nofun, nofun⟩
theorem x0_len : (form x0).length = 27 := by rw [form_length]; simp [tail, x0, CodeM.fx_length]
theorem x0_read : readI (form x0) = some (x0, 27) := by
  have := readI_form x0_may x0_fit []
  rwa [List.append_nil, x0_len] at this
end LogM
set_option maxRecDepth 100000 in
set_option maxHeartbeats 8000000 in
theorem known09_any (w : World) : Calls Try.prog 8 #[] w fun e w' => e = .returned (.bool true) ∧ Below w.heap.size w w' := by
  have HAT : Hid (∀ w', LogAt w' Lsl.z LogM.x0) := Lib.hid fun w' => (⟨Own.nil_ _ _, Own.nil_ _ _, Own.nil_ _ _, World.ownsRow_nil _ _ _ _, World.ownsRow_nil _ _ _ _, rfl, rfl, rfl, rfl, rfl⟩ : Lown w' 0 Lsl.z LogM.x0).at_ LogM.x0_fit
  go_enter Try.func8, Try.ntmps8
  have hx := Blk.new w 31 #[.int .i64 4, .int .u64 128, .int .u32 0, .int .u64 7, .int .u32 0, .int .u16 0, .slice none 0 0, .slice none 0 0, .slice none 0 0, .int .u64 0, .int .u64 0, .bool false, .int .u64 0, .slice none 0 0, .slice none 0 0]
  have hb : Below w.heap.size w (w.alloc (.cells #[.int .i64 4, .int .u64 128, .int .u32 0, .int .u64 7, .int .u32 0, .int .u16 0, .slice none 0 0, .slice none 0 0, .slice none 0 0, .int .u64 0, .int .u64 0, .bool false, .int .u64 0, .slice none 0 0, .slice none 0 0] 31)) := (Below.refl w.heap.size w).alloc (Nat.le_refl _) _
  go_upto_region 2 with fail
  generalize w.alloc (.cells #[.int .i64 4, .int .u64 128, .int .u32 0, .int .u64 7, .int .u32 0, .int .u16 0, .slice none 0 0, .slice none 0 0, .slice none 0 0, .int .u64 0, .int .u64 0, .bool false, .int .u64 0, .slice none 0 0, .slice none 0 0] 31) = V0 at *
  obtain ⟨g, hg⟩ : ∃ g, w.heap.size = g := ⟨_, rfl⟩
  rw [hg] at hx
  simp only [hg]
  have HG := Lib.hid hg
  clear hg
  go_wp2_with (refine wpl_load_row rfl _ (.tmp 1) rfl g (by go_simp) _ #[.int .i64 LogM.x0.kind, .int .u64 (LogM.x0.lsn : Int), .int .u32 (LogM.x0.epoch : Int), .int .u64 (LogM.x0.txn : Int), .int .u32 (LogM.x0.page : Int), .int .u16 (LogM.x0.off : Int), .slice Lsl.z.oA Lsl.z.on Lsl.z.oc, .slice Lsl.z.nA Lsl.z.nn Lsl.z.nc, .slice Lsl.z.uA Lsl.z.un Lsl.z.uc, .int .u64 (LogM.x0.prev : Int), .int .u64 (LogM.x0.next : Int), .bool LogM.x0.clr, .int .u64 (LogM.x0.stamp : Int), .slice Lsl.z.pA Lsl.z.pn Lsl.z.pc, .slice Lsl.z.dA Lsl.z.dn Lsl.z.dc] (0, 0) _ hx Try.underlying31 rfl (by kernel_rfl) ?_)
  go_wp2_with fail
  refine (bytes_any LogM.x0 Lsl.z V0 (HAT.out _)).mono ?_
  rintro e V1 (⟨_, A, n, c, rfl, hn, hO, hb1⟩ | ⟨hm, _, _⟩)
  rotate_left
  · exact absurd LogM.x0_may hm
  obtain rfl : 27 = n := by rw [← hn.out, LogM.x0_len]
  have hx1 := hx.below hb1 hx.lt
  have hB1 := below_step hb hb1 (Nat.le_refl _)
  have hle := hO.le
  rw [LogM.x0_len] at hle
  have hrd := read_any A 27 c (LogM.form LogM.x0) V1 hO.row LogM.x0_len hle.1 hle.2 (by omega)
  rw [LogM.x0_read] at hrd
  have HRD := Lib.hid hrd
  clear hrd hx hb hb1 hO hle hn
  go_wp2_with fail
  refine HRD.out.mono ?_
  rintro e V2 ⟨y, rfl, hl, hft, hb2⟩
  have hx2 := hx1.below hb2 hx1.lt
  have hB2 := below_step hB1 hb2 (Nat.le_refl _)
  have hy3 := Blk.new V2 31 #[.int .i64 LogM.x0.kind, .int .u64 (LogM.x0.lsn : Int), .int .u32 (LogM.x0.epoch : Int), .int .u64 (LogM.x0.txn : Int), .int .u32 (LogM.x0.page : Int), .int .u16 (LogM.x0.off : Int), .slice y.oA y.on y.oc, .slice y.nA y.nn y.nc, .slice y.uA y.un y.uc, .int .u64 (LogM.x0.prev : Int), .int .u64 (LogM.x0.next : Int), .bool LogM.x0.clr, .int .u64 (LogM.x0.stamp : Int), .slice y.pA y.pn y.pc, .slice y.dA y.dn y.dc]
  have hb3 : Below V2.heap.size V2 (V2.alloc (.cells #[.int .i64 LogM.x0.kind, .int .u64 (LogM.x0.lsn : Int), .int .u32 (LogM.x0.epoch : Int), .int .u64 (LogM.x0.txn : Int), .int .u32 (LogM.x0.page : Int), .int .u16 (LogM.x0.off : Int), .slice y.oA y.on y.oc, .slice y.nA y.nn y.nc, .slice y.uA y.un y.uc, .int .u64 (LogM.x0.prev : Int), .int .u64 (LogM.x0.next : Int), .bool LogM.x0.clr, .int .u64 (LogM.x0.stamp : Int), .slice y.pA y.pn y.pc, .slice y.dA y.dn y.dc] 31)) := (Below.refl _ _).alloc (Nat.le_refl _) _
  have hx3 := hx2.below hb3 hx2.lt
  have hB3 := below_step hB2 hb3 (Nat.le_refl _)
  have hat3 := (hl.below hb3).at_ hft
  go_upto_region 4 with fail
  generalize V2.alloc (.cells #[.int .i64 LogM.x0.kind, .int .u64 (LogM.x0.lsn : Int), .int .u32 (LogM.x0.epoch : Int), .int .u64 (LogM.x0.txn : Int), .int .u32 (LogM.x0.page : Int), .int .u16 (LogM.x0.off : Int), .slice y.oA y.on y.oc, .slice y.nA y.nn y.nc, .slice y.uA y.un y.uc, .int .u64 (LogM.x0.prev : Int), .int .u64 (LogM.x0.next : Int), .bool LogM.x0.clr, .int .u64 (LogM.x0.stamp : Int), .slice y.pA y.pn y.pc, .slice y.dA y.dn y.dc] 31) = V3 at *
  obtain ⟨gy, hgy⟩ : ∃ gy, V2.heap.size = gy := ⟨_, rfl⟩
  rw [hgy] at hy3
  simp only [hgy]
  clear hgy hx2 hB2 hb2 hb3 hl hft hx1 hB1 HRD
  have HA3 := Lib.hid hat3
  have HB3 := Lib.hid hB3
  clear hat3 hB3
  go_wp2_with (first | refine wpl_load_row rfl _ (.tmp 1) rfl g (by go_simp) _ #[.int .i64 LogM.x0.kind, .int .u64 (LogM.x0.lsn : Int), .int .u32 (LogM.x0.epoch : Int), .int .u64 (LogM.x0.txn : Int), .int .u32 (LogM.x0.page : Int), .int .u16 (LogM.x0.off : Int), .slice Lsl.z.oA Lsl.z.on Lsl.z.oc, .slice Lsl.z.nA Lsl.z.nn Lsl.z.nc, .slice Lsl.z.uA Lsl.z.un Lsl.z.uc, .int .u64 (LogM.x0.prev : Int), .int .u64 (LogM.x0.next : Int), .bool LogM.x0.clr, .int .u64 (LogM.x0.stamp : Int), .slice Lsl.z.pA Lsl.z.pn Lsl.z.pc, .slice Lsl.z.dA Lsl.z.dn Lsl.z.dc] (0, 0) _ hx3 Try.underlying31 rfl (by kernel_rfl) ?_ | refine wpl_load_row rfl _ (.tmp 4) rfl gy (by go_simp) _ #[.int .i64 LogM.x0.kind, .int .u64 (LogM.x0.lsn : Int), .int .u32 (LogM.x0.epoch : Int), .int .u64 (LogM.x0.txn : Int), .int .u32 (LogM.x0.page : Int), .int .u16 (LogM.x0.off : Int), .slice y.oA y.on y.oc, .slice y.nA y.nn y.nc, .slice y.uA y.un y.uc, .int .u64 (LogM.x0.prev : Int), .int .u64 (LogM.x0.next : Int), .bool LogM.x0.clr, .int .u64 (LogM.x0.stamp : Int), .slice y.pA y.pn y.pc, .slice y.dA y.dn y.dc] (0, 0) _ hy3 Try.underlying31 rfl (by kernel_rfl) ?_)
  refine (rsame_any LogM.x0 LogM.x0 Lsl.z y V3 (HAT.out _) HA3.out).mono ?_
  rintro e V4 ⟨r, rfl, HR, hb4⟩
  obtain rfl : r = true := HR.out.2 rfl
  go_wp2
  go_ret
  exact ⟨rfl, below_step HB3.out hb4 (Nat.le_refl _)⟩
end Go.Proofs.Ytpgmhjjdnanlgaa
/-! part -/
namespace Go.Proofs.Ytpgmhjjdnanlgaa
open Go.RowKit Go.Sort Go.Lib
set_option linter.unusedVariables false
set_option linter.unusedSimpArgs false
def lsP (s t : Lrec) (y z : Lsl) (bv : Bool) (zc : Lsl) : List (Nat × Nat × Value) := [(0, 12, (.agg #[.int .i64 s.kind, .int .u64 (s.lsn : Int), .int .u32 (s.epoch : Int), .int .u64 (s.txn : Int), .int .u32 (s.page : Int), .int .u16 (s.off : Int), .slice y.oA y.on y.oc, .slice y.nA y.nn y.nc, .slice y.uA y.un y.uc, .int .u64 (s.prev : Int), .int .u64 (s.next : Int), .bool s.clr, .int .u64 (s.stamp : Int), .slice y.pA y.pn y.pc, .slice y.dA y.dn y.dc])), (1, 13, (.agg #[.int .i64 t.kind, .int .u64 (t.lsn : Int), .int .u32 (t.epoch : Int), .int .u64 (t.txn : Int), .int .u32 (t.page : Int), .int .u16 (t.off : Int), .slice z.oA z.on z.oc, .slice z.nA z.nn z.nc, .slice z.uA z.un z.uc, .int .u64 (t.prev : Int), .int .u64 (t.next : Int), .bool t.clr, .int .u64 (t.stamp : Int), .slice z.pA z.pn z.pc, .slice z.dA z.dn z.dc])), (2, 14, (.bool bv)), (3, 15, (.agg #[.int .i64 s.kind, .int .u64 (s.lsn : Int), .int .u32 (s.epoch : Int), .int .u64 (s.txn : Int), .int .u32 (s.page : Int), .int .u16 (s.off : Int), .slice y.oA y.on y.oc, .slice y.nA y.nn y.nc, .slice y.uA y.un y.uc, .int .u64 (s.prev : Int), .int .u64 (s.next : Int), .bool s.clr, .int .u64 (s.stamp : Int), .slice y.pA y.pn y.pc, .slice y.dA y.dn y.dc])), (4, 16, (.agg #[.int .i64 t.kind, .int .u64 (t.lsn : Int), .int .u32 (t.epoch : Int), .int .u64 (t.txn : Int), .int .u32 (t.page : Int), .int .u16 (t.off : Int), .slice z.oA z.on z.oc, .slice z.nA z.nn z.nc, .slice z.uA z.un z.uc, .int .u64 (t.prev : Int), .int .u64 (t.next : Int), .bool t.clr, .int .u64 (t.stamp : Int), .slice z.pA z.pn z.pc, .slice z.dA z.dn z.dc])), (5, 17, (.bool bv)), (6, 18, (.bool true)), (7, 19, (.bool true)), (8, 20, (.agg #[.int .i64 t.kind, .int .u64 (t.lsn : Int), .int .u32 (t.epoch : Int), .int .u64 (t.txn : Int), .int .u32 (t.page : Int), .int .u16 (t.off : Int), .slice z.oA z.on z.oc, .slice z.nA z.nn z.nc, .slice z.uA z.un z.uc, .int .u64 (t.prev : Int), .int .u64 (t.next : Int), .bool t.clr, .int .u64 (t.stamp : Int), .slice z.pA z.pn z.pc, .slice z.dA z.dn z.dc])), (9, 21, (.agg #[.int .i64 s.kind, .int .u64 (s.lsn : Int), .int .u32 (s.epoch : Int), .int .u64 (s.txn : Int), .int .u32 (s.page : Int), .int .u16 (s.off : Int), .slice y.oA y.on y.oc, .slice y.nA y.nn y.nc, .slice y.uA y.un y.uc, .int .u64 (s.prev : Int), .int .u64 (s.next : Int), .bool s.clr, .int .u64 (s.stamp : Int), .slice y.pA y.pn y.pc, .slice y.dA y.dn y.dc])), (10, 22, (.bool bv)), (11, 23, (.agg #[.int .i64 s.kind, .int .u64 (s.lsn : Int), .int .u32 (s.epoch : Int), .int .u64 (s.txn : Int), .int .u32 (s.page : Int), .int .u16 (s.off : Int), .slice y.oA y.on y.oc, .slice y.nA y.nn y.nc, .slice y.uA y.un y.uc, .int .u64 (s.prev : Int), .int .u64 (s.next : Int), .bool s.clr, .int .u64 (s.stamp : Int), .slice y.pA y.pn y.pc, .slice y.dA y.dn y.dc])), (12, 24, (.agg #[.int .i64 t.kind, .int .u64 (t.lsn : Int), .int .u32 (t.epoch : Int), .int .u64 (t.txn : Int), .int .u32 (t.page : Int), .int .u16 (t.off : Int), .slice z.oA z.on z.oc, .slice z.nA z.nn z.nc, .slice z.uA z.un z.uc, .int .u64 (t.prev : Int), .int .u64 (t.next : Int), .bool t.clr, .int .u64 (t.stamp : Int), .slice z.pA z.pn z.pc, .slice z.dA z.dn z.dc])), (13, 25, (.bool bv)), (14, 26, (.bool true)), (15, 27, (.bool true)), (16, 28, (.bool true)), (17, 29, (.agg #[.int .i64 s.kind, .int .u64 (s.lsn : Int), .int .u32 (s.epoch : Int), .int .u64 (s.txn : Int), .int .u32 (s.page : Int), .int .u16 (s.off : Int), .slice y.oA y.on y.oc, .slice y.nA y.nn y.nc, .slice y.uA y.un y.uc, .int .u64 (s.prev : Int), .int .u64 (s.next : Int), .bool s.clr, .int .u64 (s.stamp : Int), .slice y.pA y.pn y.pc, .slice y.dA y.dn y.dc])), (18, 30, (.agg #[.int .i64 s.kind, .int .u64 (s.lsn : Int), .int .u32 (s.epoch : Int), .int .u64 (s.txn : Int), .int .u32 (s.page : Int), .int .u16 (s.off : Int), .slice y.oA y.on y.oc, .slice y.nA y.nn y.nc, .slice y.uA y.un y.uc, .int .u64 (s.prev : Int), .int .u64 (s.next : Int), .bool s.clr, .int .u64 (s.stamp : Int), .slice y.pA y.pn y.pc, .slice y.dA y.dn y.dc])), (19, 31, (.agg #[.int .i64 s.kind, .int .u64 (s.lsn : Int), .int .u32 (s.epoch : Int), .int .u64 (s.txn : Int), .int .u32 (s.page : Int), .int .u16 (s.off : Int), .slice zc.oA zc.on zc.oc, .slice zc.nA zc.nn zc.nc, .slice zc.uA zc.un zc.uc, .int .u64 (s.prev : Int), .int .u64 (s.next : Int), .bool s.clr, .int .u64 (s.stamp : Int), .slice zc.pA zc.pn zc.pc, .slice zc.dA zc.dn zc.dc])), (20, 32, (.bool true)), (21, 33, (.bool true)), (22, 34, (.bool true)), (23, 35, (.bool true)), (24, 36, (.bool true)), (25, 4, (.bool true))]
set_option maxRecDepth 100000 in
set_option maxHeartbeats 16000000 in
theorem logrecSame_walk (s : Lrec) (y : Lsl) (t : Lrec) (z : Lsl) (w : World) (hs : LogAt w y s) (ht : LogAt w z t) :
    Calls Try.prog 6 #[(.agg #[.int .i64 s.kind, .int .u64 (s.lsn : Int), .int .u32 (s.epoch : Int), .int .u64 (s.txn : Int), .int .u32 (s.page : Int), .int .u16 (s.off : Int), .slice y.oA y.on y.oc, .slice y.nA y.nn y.nc, .slice y.uA y.un y.uc, .int .u64 (s.prev : Int), .int .u64 (s.next : Int), .bool s.clr, .int .u64 (s.stamp : Int), .slice y.pA y.pn y.pc, .slice y.dA y.dn y.dc]), (.agg #[.int .i64 t.kind, .int .u64 (t.lsn : Int), .int .u32 (t.epoch : Int), .int .u64 (t.txn : Int), .int .u32 (t.page : Int), .int .u16 (t.off : Int), .slice z.oA z.on z.oc, .slice z.nA z.nn z.nc, .slice z.uA z.un z.uc, .int .u64 (t.prev : Int), .int .u64 (t.next : Int), .bool t.clr, .int .u64 (t.stamp : Int), .slice z.pA z.pn z.pc, .slice z.dA z.dn z.dc])] w fun e w' => e = .returned (.bool true) ∧ Below w.heap.size w w' := by
  have HS0 := Lib.hid hs
  have HT0 := Lib.hid ht
  clear hs ht
  go_enter Try.func6, Try.ntmps6
  have hx := Blk.new w 31 #[.int .i64 s.kind, .int .u64 (s.lsn : Int), .int .u32 (s.epoch : Int), .int .u64 (s.txn : Int), .int .u32 (s.page : Int), .int .u16 (s.off : Int), .slice y.oA y.on y.oc, .slice y.nA y.nn y.nc, .slice y.uA y.un y.uc, .int .u64 (s.prev : Int), .int .u64 (s.next : Int), .bool s.clr, .int .u64 (s.stamp : Int), .slice y.pA y.pn y.pc, .slice y.dA y.dn y.dc]
  have hy := Blk.new (w.alloc (.cells #[.int .i64 s.kind, .int .u64 (s.lsn : Int), .int .u32 (s.epoch : Int), .int .u64 (s.txn : Int), .int .u32 (s.page : Int), .int .u16 (s.off : Int), .slice y.oA y.on y.oc, .slice y.nA y.nn y.nc, .slice y.uA y.un y.uc, .int .u64 (s.prev : Int), .int .u64 (s.next : Int), .bool s.clr, .int .u64 (s.stamp : Int), .slice y.pA y.pn y.pc, .slice y.dA y.dn y.dc] 31)) 31 #[.int .i64 t.kind, .int .u64 (t.lsn : Int), .int .u32 (t.epoch : Int), .int .u64 (t.txn : Int), .int .u32 (t.page : Int), .int .u16 (t.off : Int), .slice z.oA z.on z.oc, .slice z.nA z.nn z.nc, .slice z.uA z.un z.uc, .int .u64 (t.prev : Int), .int .u64 (t.next : Int), .bool t.clr, .int .u64 (t.stamp : Int), .slice z.pA z.pn z.pc, .slice z.dA z.dn z.dc]
  have hb0 : Below w.heap.size w ((w.alloc (.cells #[.int .i64 s.kind, .int .u64 (s.lsn : Int), .int .u32 (s.epoch : Int), .int .u64 (s.txn : Int), .int .u32 (s.page : Int), .int .u16 (s.off : Int), .slice y.oA y.on y.oc, .slice y.nA y.nn y.nc, .slice y.uA y.un y.uc, .int .u64 (s.prev : Int), .int .u64 (s.next : Int), .bool s.clr, .int .u64 (s.stamp : Int), .slice y.pA y.pn y.pc, .slice y.dA y.dn y.dc] 31)).alloc (.cells #[.int .i64 t.kind, .int .u64 (t.lsn : Int), .int .u32 (t.epoch : Int), .int .u64 (t.txn : Int), .int .u32 (t.page : Int), .int .u16 (t.off : Int), .slice z.oA z.on z.oc, .slice z.nA z.nn z.nc, .slice z.uA z.un z.uc, .int .u64 (t.prev : Int), .int .u64 (t.next : Int), .bool t.clr, .int .u64 (t.stamp : Int), .slice z.pA z.pn z.pc, .slice z.dA z.dn z.dc] 31)) := ((Below.refl w.heap.size w).alloc (Nat.le_refl _) _).alloc (by simp) _
  have hx1 := hx.alloc (.cells #[.int .i64 t.kind, .int .u64 (t.lsn : Int), .int .u32 (t.epoch : Int), .int .u64 (t.txn : Int), .int .u32 (t.page : Int), .int .u16 (t.off : Int), .slice z.oA z.on z.oc, .slice z.nA z.nn z.nc, .slice z.uA z.un z.uc, .int .u64 (t.prev : Int), .int .u64 (t.next : Int), .bool t.clr, .int .u64 (t.stamp : Int), .slice z.pA z.pn z.pc, .slice z.dA z.dn z.dc] 31)
  have e1 : (w.alloc (.cells #[.int .i64 s.kind, .int .u64 (s.lsn : Int), .int .u32 (s.epoch : Int), .int .u64 (s.txn : Int), .int .u32 (s.page : Int), .int .u16 (s.off : Int), .slice y.oA y.on y.oc, .slice y.nA y.nn y.nc, .slice y.uA y.un y.uc, .int .u64 (s.prev : Int), .int .u64 (s.next : Int), .bool s.clr, .int .u64 (s.stamp : Int), .slice y.pA y.pn y.pc, .slice y.dA y.dn y.dc] 31)).heap.size = w.heap.size + 1 := by simp
  rw [e1] at hy
  clear hx
  go_upto_region 1 with fail
  generalize (w.alloc (.cells #[.int .i64 s.kind, .int .u64 (s.lsn : Int), .int .u32 (s.epoch : Int), .int .u64 (s.txn : Int), .int .u32 (s.page : Int), .int .u16 (s.off : Int), .slice y.oA y.on y.oc, .slice y.nA y.nn y.nc, .slice y.uA y.un y.uc, .int .u64 (s.prev : Int), .int .u64 (s.next : Int), .bool s.clr, .int .u64 (s.stamp : Int), .slice y.pA y.pn y.pc, .slice y.dA y.dn y.dc] 31)).alloc (.cells #[.int .i64 t.kind, .int .u64 (t.lsn : Int), .int .u32 (t.epoch : Int), .int .u64 (t.txn : Int), .int .u32 (t.page : Int), .int .u16 (t.off : Int), .slice z.oA z.on z.oc, .slice z.nA z.nn z.nc, .slice z.uA z.un z.uc, .int .u64 (t.prev : Int), .int .u64 (t.next : Int), .bool t.clr, .int .u64 (t.stamp : Int), .slice z.pA z.pn z.pc, .slice z.dA z.dn z.dc] 31) = V0 at *
  obtain ⟨g1, hg1⟩ : ∃ g1, w.heap.size = g1 := ⟨_, rfl⟩
  obtain ⟨g2, hg2⟩ : ∃ g2, w.heap.size + 1 = g2 := ⟨_, rfl⟩
  rw [hg1] at hx1
  rw [hg2] at hy
  simp only [hg2]
  simp only [hg1]
  clear hg1 hg2 e1
  have hs0 := HS0.out.below hb0
  have ht0 := HT0.out.below hb0
  have HSa := Lib.hid hs0
  have HTa := Lib.hid ht0
  clear hs0 ht0 HS0 HT0
  go_wp2_with (first | (refine wpl_load_row rfl _ (.tmp 2) rfl g1 (by go_simp) _ #[.int .i64 s.kind, .int .u64 (s.lsn : Int), .int .u32 (s.epoch : Int), .int .u64 (s.txn : Int), .int .u32 (s.page : Int), .int .u16 (s.off : Int), .slice y.oA y.on y.oc, .slice y.nA y.nn y.nc, .slice y.uA y.un y.uc, .int .u64 (s.prev : Int), .int .u64 (s.next : Int), .bool s.clr, .int .u64 (s.stamp : Int), .slice y.pA y.pn y.pc, .slice y.dA y.dn y.dc] (0, 0) _ hx1 Try.underlying31 rfl (by kernel_rfl) ?_) | (refine wpl_load_row rfl _ (.tmp 3) rfl g2 (by go_simp) _ #[.int .i64 t.kind, .int .u64 (t.lsn : Int), .int .u32 (t.epoch : Int), .int .u64 (t.txn : Int), .int .u32 (t.page : Int), .int .u16 (t.off : Int), .slice z.oA z.on z.oc, .slice z.nA z.nn z.nc, .slice z.uA z.un z.uc, .int .u64 (t.prev : Int), .int .u64 (t.next : Int), .bool t.clr, .int .u64 (t.stamp : Int), .slice z.pA z.pn z.pc, .slice z.dA z.dn z.dc] (0, 0) _ hy Try.underlying31 rfl (by kernel_rfl) ?_))
  refine (large_any s y V0 HSa.out).mono ?_
  rintro e V1 ⟨r1, rfl, HR1, hb1⟩
  have hxa := hx1.below hb1 hx1.lt
  have hya := hy.below hb1 hy.lt
  have hB1 := below_step hb0 hb1 (Nat.le_refl _)
  have HSb := Lib.hid (HSa.out.below hb1)
  have HTb := Lib.hid (HTa.out.below hb1)
  clear hx1 hy hb0 hb1 HSa HTa
  clear V0
  cases r1 with
  | true =>
    go_wp2_with fail
    refine (known09_any _).mono ?_
    rintro e wz ⟨rfl, hbz⟩
    go_wp2
    go_ret
    exact ⟨rfl, below_step hB1 hbz (Nat.le_refl _)⟩
  | false =>
    go_wp2_with (first | (refine wpl_load_row rfl _ (.tmp 2) rfl g1 (by go_simp) _ #[.int .i64 s.kind, .int .u64 (s.lsn : Int), .int .u32 (s.epoch : Int), .int .u64 (s.txn : Int), .int .u32 (s.page : Int), .int .u16 (s.off : Int), .slice y.oA y.on y.oc, .slice y.nA y.nn y.nc, .slice y.uA y.un y.uc, .int .u64 (s.prev : Int), .int .u64 (s.next : Int), .bool s.clr, .int .u64 (s.stamp : Int), .slice y.pA y.pn y.pc, .slice y.dA y.dn y.dc] (0, 0) _ hxa Try.underlying31 rfl (by kernel_rfl) ?_) | (refine wpl_load_row rfl _ (.tmp 3) rfl g2 (by go_simp) _ #[.int .i64 t.kind, .int .u64 (t.lsn : Int), .int .u32 (t.epoch : Int), .int .u64 (t.txn : Int), .int .u32 (t.page : Int), .int .u16 (t.off : Int), .slice z.oA z.on z.oc, .slice z.nA z.nn z.nc, .slice z.uA z.un z.uc, .int .u64 (t.prev : Int), .int .u64 (t.next : Int), .bool t.clr, .int .u64 (t.stamp : Int), .slice z.pA z.pn z.pc, .slice z.dA z.dn z.dc] (0, 0) _ hya Try.underlying31 rfl (by kernel_rfl) ?_))
    refine (large_any t z V1 HTb.out).mono ?_
    rintro e V2 ⟨r2, rfl, HR2, hb2⟩
    have hxb := hxa.below hb2 hxa.lt
    have hyb := hya.below hb2 hya.lt
    have hB2 := below_step hB1 hb2 (Nat.le_refl _)
    have HS := Lib.hid (HSb.out.below hb2)
    have HT := Lib.hid (HTb.out.below hb2)
    have HX := Lib.hid hxb
    have HY := Lib.hid hyb
    clear hxa hya hb2 hB1 HSb HTb hxb hyb
    clear V1
    cases r2 with
    | true =>
      go_wp2_with fail
      refine (known09_any _).mono ?_
      rintro e wz ⟨rfl, hbz⟩
      go_wp2
      go_ret
      exact ⟨rfl, below_step hB2 hbz (Nat.le_refl _)⟩
    | false =>
      have HLG : Hid (y.on ≤ 2000 ∧ y.nn ≤ 2000 ∧ y.un ≤ 2000 ∧ y.pn ≤ 2000 ∧ y.dn ≤ 2000) := Lib.hid (by
        have h : ¬ Large y := fun q => by have := HR1.out.2 q; cases this
        unfold Large at h
        omega)
      obtain ⟨bv, hbv⟩ : ∃ bv : Bool, bv = true ↔ s = t := ⟨decide (s = t), decide_eq_true_iff⟩
      have HBV := Lib.hid hbv
      clear hbv HR1 HR2
      go_upto_region 3 with fail
      refine wp_named fun a0 ha0 => ?_
      have z2 : a0.tmps.getD 2 undef = (.pointer (some ⟨g1, 0, none⟩)) := by rw [ha0.out]; rfl
      have z3 : a0.tmps.getD 3 undef = (.pointer (some ⟨g2, 0, none⟩)) := by rw [ha0.out]; rfl
      have hsz0 : a0.tmps.size = 37 := by rw [ha0.out]; rfl
      refine wp_region_invB _ (by kernel_rfl) (fun L a wv => ∃ zc, PIF a0 [12, 13, 14, 15, 16, 17, 18, 19, 20, 21, 22, 23, 24, 25, 26, 27, 28, 29, 30, 31, 32, 33, 34, 35, 36, 4] (lsP s t y z bv zc) L a ∧ Below V2.heap.size V2 wv ∧ (L 19 = true → Lown wv V2.heap.size zc s)) (by kernel_rfl) ?_ ?_ ?_
      · exact ⟨Lsl.z, PIF.start _ _ _, ⟨rfl, rfl, rfl, Nat.le_refl _, fun _ _ => rfl⟩, nofun⟩
      rotate_left
      · as_aux_lemma =>
        refine ⟨?_, ?_, ?_, ?_, ?_, ?_, ?_, ?_, ?_, ?_, ?_, ?_, ?_, ?_, ?_, ?_, ?_, ?_, ?_, ?_, ?_, ?_, ?_, ?_, ?_, ?_, trivial⟩
        · intro L a w1 hI hi hd
          obtain ⟨zc, hp, hb, hl⟩ := hI
          have t0 := hp.at_ 2 _ rfl z2
          exact rstep_valW (wanted_none rfl _) (.agg #[.int .i64 s.kind, .int .u64 (s.lsn : Int), .int .u32 (s.epoch : Int), .int .u64 (s.txn : Int), .int .u32 (s.page : Int), .int .u16 (s.off : Int), .slice y.oA y.on y.oc, .slice y.nA y.nn y.nc, .slice y.uA y.un y.uc, .int .u64 (s.prev : Int), .int .u64 (s.next : Int), .bool s.clr, .int .u64 (s.stamp : Int), .slice y.pA y.pn y.pc, .slice y.dA y.dn y.dc]) w1 (exec_load_row _ (.tmp 2) rfl g1 t0 _ _ _ (HX.out.below hb HX.out.lt) Try.underlying31 rfl (by kernel_rfl)) ⟨zc, hp.put 0 12 (.agg #[.int .i64 s.kind, .int .u64 (s.lsn : Int), .int .u32 (s.epoch : Int), .int .u64 (s.txn : Int), .int .u32 (s.page : Int), .int .u16 (s.off : Int), .slice y.oA y.on y.oc, .slice y.nA y.nn y.nc, .slice y.uA y.un y.uc, .int .u64 (s.prev : Int), .int .u64 (s.next : Int), .bool s.clr, .int .u64 (s.stamp : Int), .slice y.pA y.pn y.pc, .slice y.dA y.dn y.dc]) (by simp [lsP]) (by simp [lsP]) rfl (by rw [hsz0]; exact (by decide : 12 < 37)), hb, fun q => hl (by rwa [upd_ne L (show (19 : Nat) ≠ 0 by decide)] at q)⟩
        · intro L a w1 hI hi hd
          obtain ⟨zc, hp, hb, hl⟩ := hI
          have t0 := hp.at_ 3 _ rfl z3
          exact rstep_valW (wanted_none rfl _) (.agg #[.int .i64 t.kind, .int .u64 (t.lsn : Int), .int .u32 (t.epoch : Int), .int .u64 (t.txn : Int), .int .u32 (t.page : Int), .int .u16 (t.off : Int), .slice z.oA z.on z.oc, .slice z.nA z.nn z.nc, .slice z.uA z.un z.uc, .int .u64 (t.prev : Int), .int .u64 (t.next : Int), .bool t.clr, .int .u64 (t.stamp : Int), .slice z.pA z.pn z.pc, .slice z.dA z.dn z.dc]) w1 (exec_load_row _ (.tmp 3) rfl g2 t0 _ _ _ (HY.out.below hb HY.out.lt) Try.underlying31 rfl (by kernel_rfl)) ⟨zc, hp.put 1 13 (.agg #[.int .i64 t.kind, .int .u64 (t.lsn : Int), .int .u32 (t.epoch : Int), .int .u64 (t.txn : Int), .int .u32 (t.page : Int), .int .u16 (t.off : Int), .slice z.oA z.on z.oc, .slice z.nA z.nn z.nc, .slice z.uA z.un z.uc, .int .u64 (t.prev : Int), .int .u64 (t.next : Int), .bool t.clr, .int .u64 (t.stamp : Int), .slice z.pA z.pn z.pc, .slice z.dA z.dn z.dc]) (by simp [lsP]) (by simp [lsP]) rfl (by rw [hsz0]; exact (by decide : 13 < 37)), hb, fun q => hl (by rwa [upd_ne L (show (19 : Nat) ≠ 1 by decide)] at q)⟩
        · intro L a w1 hI hi hd
          obtain ⟨zc, hp, hb, hl⟩ := hI
          simp [Region.binds] at hd
          have e0 : a.tmps.getD 12 undef = (.agg #[.int .i64 s.kind, .int .u64 (s.lsn : Int), .int .u32 (s.epoch : Int), .int .u64 (s.txn : Int), .int .u32 (s.page : Int), .int .u16 (s.off : Int), .slice y.oA y.on y.oc, .slice y.nA y.nn y.nc, .slice y.uA y.un y.uc, .int .u64 (s.prev : Int), .int .u64 (s.next : Int), .bool s.clr, .int .u64 (s.stamp : Int), .slice y.pA y.pn y.pc, .slice y.dA y.dn y.dc]) := hp.pu (0, 12, (.agg #[.int .i64 s.kind, .int .u64 (s.lsn : Int), .int .u32 (s.epoch : Int), .int .u64 (s.txn : Int), .int .u32 (s.page : Int), .int .u16 (s.off : Int), .slice y.oA y.on y.oc, .slice y.nA y.nn y.nc, .slice y.uA y.un y.uc, .int .u64 (s.prev : Int), .int .u64 (s.next : Int), .bool s.clr, .int .u64 (s.stamp : Int), .slice y.pA y.pn y.pc, .slice y.dA y.dn y.dc])) (by simp [lsP]) (by simp [hd])
          have f0 : a.tmps[12]?.getD undef = (.agg #[.int .i64 s.kind, .int .u64 (s.lsn : Int), .int .u32 (s.epoch : Int), .int .u64 (s.txn : Int), .int .u32 (s.page : Int), .int .u16 (s.off : Int), .slice y.oA y.on y.oc, .slice y.nA y.nn y.nc, .slice y.uA y.un y.uc, .int .u64 (s.prev : Int), .int .u64 (s.next : Int), .bool s.clr, .int .u64 (s.stamp : Int), .slice y.pA y.pn y.pc, .slice y.dA y.dn y.dc]) := by rw [← Array.getD_eq_getD_getElem?]; exact e0
          have e1 : a.tmps.getD 13 undef = (.agg #[.int .i64 t.kind, .int .u64 (t.lsn : Int), .int .u32 (t.epoch : Int), .int .u64 (t.txn : Int), .int .u32 (t.page : Int), .int .u16 (t.off : Int), .slice z.oA z.on z.oc, .slice z.nA z.nn z.nc, .slice z.uA z.un z.uc, .int .u64 (t.prev : Int), .int .u64 (t.next : Int), .bool t.clr, .int .u64 (t.stamp : Int), .slice z.pA z.pn z.pc, .slice z.dA z.dn z.dc]) := hp.pu (1, 13, (.agg #[.int .i64 t.kind, .int .u64 (t.lsn : Int), .int .u32 (t.epoch : Int), .int .u64 (t.txn : Int), .int .u32 (t.page : Int), .int .u16 (t.off : Int), .slice z.oA z.on z.oc, .slice z.nA z.nn z.nc, .slice z.uA z.un z.uc, .int .u64 (t.prev : Int), .int .u64 (t.next : Int), .bool t.clr, .int .u64 (t.stamp : Int), .slice z.pA z.pn z.pc, .slice z.dA z.dn z.dc])) (by simp [lsP]) (by simp [hd])
          have f1 : a.tmps[13]?.getD undef = (.agg #[.int .i64 t.kind, .int .u64 (t.lsn : Int), .int .u32 (t.epoch : Int), .int .u64 (t.txn : Int), .int .u32 (t.page : Int), .int .u16 (t.off : Int), .slice z.oA z.on z.oc, .slice z.nA z.nn z.nc, .slice z.uA z.un z.uc, .int .u64 (t.prev : Int), .int .u64 (t.next : Int), .bool t.clr, .int .u64 (t.stamp : Int), .slice z.pA z.pn z.pc, .slice z.dA z.dn z.dc]) := by rw [← Array.getD_eq_getD_getElem?]; exact e1
          refine rstep_callW (wanted_none rfl _) 19 #[(.agg #[.int .i64 s.kind, .int .u64 (s.lsn : Int), .int .u32 (s.epoch : Int), .int .u64 (s.txn : Int), .int .u32 (s.page : Int), .int .u16 (s.off : Int), .slice y.oA y.on y.oc, .slice y.nA y.nn y.nc, .slice y.uA y.un y.uc, .int .u64 (s.prev : Int), .int .u64 (s.next : Int), .bool s.clr, .int .u64 (s.stamp : Int), .slice y.pA y.pn y.pc, .slice y.dA y.dn y.dc]), (.agg #[.int .i64 t.kind, .int .u64 (t.lsn : Int), .int .u32 (t.epoch : Int), .int .u64 (t.txn : Int), .int .u32 (t.page : Int), .int .u16 (t.off : Int), .slice z.oA z.on z.oc, .slice z.nA z.nn z.nc, .slice z.uA z.un z.uc, .int .u64 (t.prev : Int), .int .u64 (t.next : Int), .bool t.clr, .int .u64 (t.stamp : Int), .slice z.pA z.pn z.pc, .slice z.dA z.dn z.dc])] (by go_simp) ?_
          refine (same_any s t y z w1 (HS.out.below hb) (HT.out.below hb)).mono ?_
          rintro e w2 ⟨r, rfl, HR, hb2⟩
          obtain rfl : bv = r := (Bool.eq_iff_iff.2 (HR.out.trans HBV.out.symm)).symm
          exact ⟨zc, hp.put 2 14 (.bool bv) (by simp [lsP]) (by simp [lsP]) rfl (by rw [hsz0]; exact (by decide : 14 < 37)), hb.trans (hb2.mono hb.size), fun q => (hl (by rwa [upd_ne L (show (19 : Nat) ≠ 2 by decide)] at q)).below hb2⟩
        · intro L a w1 hI hi hd
          obtain ⟨zc, hp, hb, hl⟩ := hI
          have t0 := hp.at_ 2 _ rfl z2
          exact rstep_valW (wanted_none rfl _) (.agg #[.int .i64 s.kind, .int .u64 (s.lsn : Int), .int .u32 (s.epoch : Int), .int .u64 (s.txn : Int), .int .u32 (s.page : Int), .int .u16 (s.off : Int), .slice y.oA y.on y.oc, .slice y.nA y.nn y.nc, .slice y.uA y.un y.uc, .int .u64 (s.prev : Int), .int .u64 (s.next : Int), .bool s.clr, .int .u64 (s.stamp : Int), .slice y.pA y.pn y.pc, .slice y.dA y.dn y.dc]) w1 (exec_load_row _ (.tmp 2) rfl g1 t0 _ _ _ (HX.out.below hb HX.out.lt) Try.underlying31 rfl (by kernel_rfl)) ⟨zc, hp.put 3 15 (.agg #[.int .i64 s.kind, .int .u64 (s.lsn : Int), .int .u32 (s.epoch : Int), .int .u64 (s.txn : Int), .int .u32 (s.page : Int), .int .u16 (s.off : Int), .slice y.oA y.on y.oc, .slice y.nA y.nn y.nc, .slice y.uA y.un y.uc, .int .u64 (s.prev : Int), .int .u64 (s.next : Int), .bool s.clr, .int .u64 (s.stamp : Int), .slice y.pA y.pn y.pc, .slice y.dA y.dn y.dc]) (by simp [lsP]) (by simp [lsP]) rfl (by rw [hsz0]; exact (by decide : 15 < 37)), hb, fun q => hl (by rwa [upd_ne L (show (19 : Nat) ≠ 3 by decide)] at q)⟩
        · intro L a w1 hI hi hd
          obtain ⟨zc, hp, hb, hl⟩ := hI
          have t0 := hp.at_ 3 _ rfl z3
          exact rstep_valW (wanted_none rfl _) (.agg #[.int .i64 t.kind, .int .u64 (t.lsn : Int), .int .u32 (t.epoch : Int), .int .u64 (t.txn : Int), .int .u32 (t.page : Int), .int .u16 (t.off : Int), .slice z.oA z.on z.oc, .slice z.nA z.nn z.nc, .slice z.uA z.un z.uc, .int .u64 (t.prev : Int), .int .u64 (t.next : Int), .bool t.clr, .int .u64 (t.stamp : Int), .slice z.pA z.pn z.pc, .slice z.dA z.dn z.dc]) w1 (exec_load_row _ (.tmp 3) rfl g2 t0 _ _ _ (HY.out.below hb HY.out.lt) Try.underlying31 rfl (by kernel_rfl)) ⟨zc, hp.put 4 16 (.agg #[.int .i64 t.kind, .int .u64 (t.lsn : Int), .int .u32 (t.epoch : Int), .int .u64 (t.txn : Int), .int .u32 (t.page : Int), .int .u16 (t.off : Int), .slice z.oA z.on z.oc, .slice z.nA z.nn z.nc, .slice z.uA z.un z.uc, .int .u64 (t.prev : Int), .int .u64 (t.next : Int), .bool t.clr, .int .u64 (t.stamp : Int), .slice z.pA z.pn z.pc, .slice z.dA z.dn z.dc]) (by simp [lsP]) (by simp [lsP]) rfl (by rw [hsz0]; exact (by decide : 16 < 37)), hb, fun q => hl (by rwa [upd_ne L (show (19 : Nat) ≠ 4 by decide)] at q)⟩
        · intro L a w1 hI hi hd
          obtain ⟨zc, hp, hb, hl⟩ := hI
          simp [Region.binds] at hd
          have e3 : a.tmps.getD 15 undef = (.agg #[.int .i64 s.kind, .int .u64 (s.lsn : Int), .int .u32 (s.epoch : Int), .int .u64 (s.txn : Int), .int .u32 (s.page : Int), .int .u16 (s.off : Int), .slice y.oA y.on y.oc, .slice y.nA y.nn y.nc, .slice y.uA y.un y.uc, .int .u64 (s.prev : Int), .int .u64 (s.next : Int), .bool s.clr, .int .u64 (s.stamp : Int), .slice y.pA y.pn y.pc, .slice y.dA y.dn y.dc]) := hp.pu (3, 15, (.agg #[.int .i64 s.kind, .int .u64 (s.lsn : Int), .int .u32 (s.epoch : Int), .int .u64 (s.txn : Int), .int .u32 (s.page : Int), .int .u16 (s.off : Int), .slice y.oA y.on y.oc, .slice y.nA y.nn y.nc, .slice y.uA y.un y.uc, .int .u64 (s.prev : Int), .int .u64 (s.next : Int), .bool s.clr, .int .u64 (s.stamp : Int), .slice y.pA y.pn y.pc, .slice y.dA y.dn y.dc])) (by simp [lsP]) (by simp [hd])
          have f3 : a.tmps[15]?.getD undef = (.agg #[.int .i64 s.kind, .int .u64 (s.lsn : Int), .int .u32 (s.epoch : Int), .int .u64 (s.txn : Int), .int .u32 (s.page : Int), .int .u16 (s.off : Int), .slice y.oA y.on y.oc, .slice y.nA y.nn y.nc, .slice y.uA y.un y.uc, .int .u64 (s.prev : Int), .int .u64 (s.next : Int), .bool s.clr, .int .u64 (s.stamp : Int), .slice y.pA y.pn y.pc, .slice y.dA y.dn y.dc]) := by rw [← Array.getD_eq_getD_getElem?]; exact e3
          have e4 : a.tmps.getD 16 undef = (.agg #[.int .i64 t.kind, .int .u64 (t.lsn : Int), .int .u32 (t.epoch : Int), .int .u64 (t.txn : Int), .int .u32 (t.page : Int), .int .u16 (t.off : Int), .slice z.oA z.on z.oc, .slice z.nA z.nn z.nc, .slice z.uA z.un z.uc, .int .u64 (t.prev : Int), .int .u64 (t.next : Int), .bool t.clr, .int .u64 (t.stamp : Int), .slice z.pA z.pn z.pc, .slice z.dA z.dn z.dc]) := hp.pu (4, 16, (.agg #[.int .i64 t.kind, .int .u64 (t.lsn : Int), .int .u32 (t.epoch : Int), .int .u64 (t.txn : Int), .int .u32 (t.page : Int), .int .u16 (t.off : Int), .slice z.oA z.on z.oc, .slice z.nA z.nn z.nc, .slice z.uA z.un z.uc, .int .u64 (t.prev : Int), .int .u64 (t.next : Int), .bool t.clr, .int .u64 (t.stamp : Int), .slice z.pA z.pn z.pc, .slice z.dA z.dn z.dc])) (by simp [lsP]) (by simp [hd])
          have f4 : a.tmps[16]?.getD undef = (.agg #[.int .i64 t.kind, .int .u64 (t.lsn : Int), .int .u32 (t.epoch : Int), .int .u64 (t.txn : Int), .int .u32 (t.page : Int), .int .u16 (t.off : Int), .slice z.oA z.on z.oc, .slice z.nA z.nn z.nc, .slice z.uA z.un z.uc, .int .u64 (t.prev : Int), .int .u64 (t.next : Int), .bool t.clr, .int .u64 (t.stamp : Int), .slice z.pA z.pn z.pc, .slice z.dA z.dn z.dc]) := by rw [← Array.getD_eq_getD_getElem?]; exact e4
          refine rstep_callW (wanted_none rfl _) 11 #[(.agg #[.int .i64 s.kind, .int .u64 (s.lsn : Int), .int .u32 (s.epoch : Int), .int .u64 (s.txn : Int), .int .u32 (s.page : Int), .int .u16 (s.off : Int), .slice y.oA y.on y.oc, .slice y.nA y.nn y.nc, .slice y.uA y.un y.uc, .int .u64 (s.prev : Int), .int .u64 (s.next : Int), .bool s.clr, .int .u64 (s.stamp : Int), .slice y.pA y.pn y.pc, .slice y.dA y.dn y.dc]), (.agg #[.int .i64 t.kind, .int .u64 (t.lsn : Int), .int .u32 (t.epoch : Int), .int .u64 (t.txn : Int), .int .u32 (t.page : Int), .int .u16 (t.off : Int), .slice z.oA z.on z.oc, .slice z.nA z.nn z.nc, .slice z.uA z.un z.uc, .int .u64 (t.prev : Int), .int .u64 (t.next : Int), .bool t.clr, .int .u64 (t.stamp : Int), .slice z.pA z.pn z.pc, .slice z.dA z.dn z.dc])] (by go_simp) ?_
          refine (rsame_any s t y z w1 (HS.out.below hb) (HT.out.below hb)).mono ?_
          rintro e w2 ⟨r, rfl, HR, hb2⟩
          obtain rfl : bv = r := (Bool.eq_iff_iff.2 (HR.out.trans HBV.out.symm)).symm
          exact ⟨zc, hp.put 5 17 (.bool bv) (by simp [lsP]) (by simp [lsP]) rfl (by rw [hsz0]; exact (by decide : 17 < 37)), hb.trans (hb2.mono hb.size), fun q => (hl (by rwa [upd_ne L (show (19 : Nat) ≠ 5 by decide)] at q)).below hb2⟩
        · intro L a w1 hI hi hd
          obtain ⟨zc, hp, hb, hl⟩ := hI
          simp [Region.binds] at hd
          have e2 : a.tmps.getD 14 undef = (.bool bv) := hp.pu (2, 14, (.bool bv)) (by simp [lsP]) (by simp [hd])
          have f2 : a.tmps[14]?.getD undef = (.bool bv) := by rw [← Array.getD_eq_getD_getElem?]; exact e2
          have e5 : a.tmps.getD 17 undef = (.bool bv) := hp.pu (5, 17, (.bool bv)) (by simp [lsP]) (by simp [hd])
          have f5 : a.tmps[17]?.getD undef = (.bool bv) := by rw [← Array.getD_eq_getD_getElem?]; exact e5
          exact rstep_valW (wanted_none rfl _) (.bool true) w1 (by go_simp) ⟨zc, hp.put 6 18 (.bool true) (by simp [lsP]) (by simp [lsP]) rfl (by rw [hsz0]; exact (by decide : 18 < 37)), hb, fun q => hl (by rwa [upd_ne L (show (19 : Nat) ≠ 6 by decide)] at q)⟩
        · intro L a w1 hI hi hd
          obtain ⟨zc, hp, hb, hl⟩ := hI
          simp [Region.binds] at hd
          have e6 : a.tmps.getD 18 undef = (.bool true) := hp.pu (6, 18, (.bool true)) (by simp [lsP]) (by simp [hd])
          have f6 : a.tmps[18]?.getD undef = (.bool true) := by rw [← Array.getD_eq_getD_getElem?]; exact e6
          exact rstep_valW (wanted_none rfl _) (.bool true) w1 (by go_simp) ⟨zc, hp.put 7 19 (.bool true) (by simp [lsP]) (by simp [lsP]) rfl (by rw [hsz0]; exact (by decide : 19 < 37)), hb, fun q => hl (by rwa [upd_ne L (show (19 : Nat) ≠ 7 by decide)] at q)⟩
        · intro L a w1 hI hi hd
          obtain ⟨zc, hp, hb, hl⟩ := hI
          simp [Region.binds] at hd
          have e7 : a.tmps.getD 19 undef = (.bool true) := hp.pu (7, 19, (.bool true)) (by simp [lsP]) (by simp [hd])
          have f7 : a.tmps[19]?.getD undef = (.bool true) := by rw [← Array.getD_eq_getD_getElem?]; exact e7
          have t0 := hp.at_ 3 _ rfl z3
          exact rstep_valW (wanted_of 7 19 true rfl rfl e7) (.agg #[.int .i64 t.kind, .int .u64 (t.lsn : Int), .int .u32 (t.epoch : Int), .int .u64 (t.txn : Int), .int .u32 (t.page : Int), .int .u16 (t.off : Int), .slice z.oA z.on z.oc, .slice z.nA z.nn z.nc, .slice z.uA z.un z.uc, .int .u64 (t.prev : Int), .int .u64 (t.next : Int), .bool t.clr, .int .u64 (t.stamp : Int), .slice z.pA z.pn z.pc, .slice z.dA z.dn z.dc]) w1 (exec_load_row _ (.tmp 3) rfl g2 t0 _ _ _ (HY.out.below hb HY.out.lt) Try.underlying31 rfl (by kernel_rfl)) ⟨zc, hp.put 8 20 (.agg #[.int .i64 t.kind, .int .u64 (t.lsn : Int), .int .u32 (t.epoch : Int), .int .u64 (t.txn : Int), .int .u32 (t.page : Int), .int .u16 (t.off : Int), .slice z.oA z.on z.oc, .slice z.nA z.nn z.nc, .slice z.uA z.un z.uc, .int .u64 (t.prev : Int), .int .u64 (t.next : Int), .bool t.clr, .int .u64 (t.stamp : Int), .slice z.pA z.pn z.pc, .slice z.dA z.dn z.dc]) (by simp [lsP]) (by simp [lsP]) rfl (by rw [hsz0]; exact (by decide : 20 < 37)), hb, fun q => hl (by rwa [upd_ne L (show (19 : Nat) ≠ 8 by decide)] at q)⟩
        · intro L a w1 hI hi hd
          obtain ⟨zc, hp, hb, hl⟩ := hI
          simp [Region.binds] at hd
          have e7 : a.tmps.getD 19 undef = (.bool true) := hp.pu (7, 19, (.bool true)) (by simp [lsP]) (by simp [hd])
          have f7 : a.tmps[19]?.getD undef = (.bool true) := by rw [← Array.getD_eq_getD_getElem?]; exact e7
          have t0 := hp.at_ 2 _ rfl z2
          exact rstep_valW (wanted_of 7 19 true rfl rfl e7) (.agg #[.int .i64 s.kind, .int .u64 (s.lsn : Int), .int .u32 (s.epoch : Int), .int .u64 (s.txn : Int), .int .u32 (s.page : Int), .int .u16 (s.off : Int), .slice y.oA y.on y.oc, .slice y.nA y.nn y.nc, .slice y.uA y.un y.uc, .int .u64 (s.prev : Int), .int .u64 (s.next : Int), .bool s.clr, .int .u64 (s.stamp : Int), .slice y.pA y.pn y.pc, .slice y.dA y.dn y.dc]) w1 (exec_load_row _ (.tmp 2) rfl g1 t0 _ _ _ (HX.out.below hb HX.out.lt) Try.underlying31 rfl (by kernel_rfl)) ⟨zc, hp.put 9 21 (.agg #[.int .i64 s.kind, .int .u64 (s.lsn : Int), .int .u32 (s.epoch : Int), .int .u64 (s.txn : Int), .int .u32 (s.page : Int), .int .u16 (s.off : Int), .slice y.oA y.on y.oc, .slice y.nA y.nn y.nc, .slice y.uA y.un y.uc, .int .u64 (s.prev : Int), .int .u64 (s.next : Int), .bool s.clr, .int .u64 (s.stamp : Int), .slice y.pA y.pn y.pc, .slice y.dA y.dn y.dc]) (by simp [lsP]) (by simp [lsP]) rfl (by rw [hsz0]; exact (by decide : 21 < 37)), hb, fun q => hl (by rwa [upd_ne L (show (19 : Nat) ≠ 9 by decide)] at q)⟩
        · intro L a w1 hI hi hd
          obtain ⟨zc, hp, hb, hl⟩ := hI
          simp [Region.binds] at hd
          have e7 : a.tmps.getD 19 undef = (.bool true) := hp.pu (7, 19, (.bool true)) (by simp [lsP]) (by simp [hd])
          have f7 : a.tmps[19]?.getD undef = (.bool true) := by rw [← Array.getD_eq_getD_getElem?]; exact e7
          have e8 : a.tmps.getD 20 undef = (.agg #[.int .i64 t.kind, .int .u64 (t.lsn : Int), .int .u32 (t.epoch : Int), .int .u64 (t.txn : Int), .int .u32 (t.page : Int), .int .u16 (t.off : Int), .slice z.oA z.on z.oc, .slice z.nA z.nn z.nc, .slice z.uA z.un z.uc, .int .u64 (t.prev : Int), .int .u64 (t.next : Int), .bool t.clr, .int .u64 (t.stamp : Int), .slice z.pA z.pn z.pc, .slice z.dA z.dn z.dc]) := hp.pu (8, 20, (.agg #[.int .i64 t.kind, .int .u64 (t.lsn : Int), .int .u32 (t.epoch : Int), .int .u64 (t.txn : Int), .int .u32 (t.page : Int), .int .u16 (t.off : Int), .slice z.oA z.on z.oc, .slice z.nA z.nn z.nc, .slice z.uA z.un z.uc, .int .u64 (t.prev : Int), .int .u64 (t.next : Int), .bool t.clr, .int .u64 (t.stamp : Int), .slice z.pA z.pn z.pc, .slice z.dA z.dn z.dc])) (by simp [lsP]) (by simp [hd])
          have f8 : a.tmps[20]?.getD undef = (.agg #[.int .i64 t.kind, .int .u64 (t.lsn : Int), .int .u32 (t.epoch : Int), .int .u64 (t.txn : Int), .int .u32 (t.page : Int), .int .u16 (t.off : Int), .slice z.oA z.on z.oc, .slice z.nA z.nn z.nc, .slice z.uA z.un z.uc, .int .u64 (t.prev : Int), .int .u64 (t.next : Int), .bool t.clr, .int .u64 (t.stamp : Int), .slice z.pA z.pn z.pc, .slice z.dA z.dn z.dc]) := by rw [← Array.getD_eq_getD_getElem?]; exact e8
          have e9 : a.tmps.getD 21 undef = (.agg #[.int .i64 s.kind, .int .u64 (s.lsn : Int), .int .u32 (s.epoch : Int), .int .u64 (s.txn : Int), .int .u32 (s.page : Int), .int .u16 (s.off : Int), .slice y.oA y.on y.oc, .slice y.nA y.nn y.nc, .slice y.uA y.un y.uc, .int .u64 (s.prev : Int), .int .u64 (s.next : Int), .bool s.clr, .int .u64 (s.stamp : Int), .slice y.pA y.pn y.pc, .slice y.dA y.dn y.dc]) := hp.pu (9, 21, (.agg #[.int .i64 s.kind, .int .u64 (s.lsn : Int), .int .u32 (s.epoch : Int), .int .u64 (s.txn : Int), .int .u32 (s.page : Int), .int .u16 (s.off : Int), .slice y.oA y.on y.oc, .slice y.nA y.nn y.nc, .slice y.uA y.un y.uc, .int .u64 (s.prev : Int), .int .u64 (s.next : Int), .bool s.clr, .int .u64 (s.stamp : Int), .slice y.pA y.pn y.pc, .slice y.dA y.dn y.dc])) (by simp [lsP]) (by simp [hd])
          have f9 : a.tmps[21]?.getD undef = (.agg #[.int .i64 s.kind, .int .u64 (s.lsn : Int), .int .u32 (s.epoch : Int), .int .u64 (s.txn : Int), .int .u32 (s.page : Int), .int .u16 (s.off : Int), .slice y.oA y.on y.oc, .slice y.nA y.nn y.nc, .slice y.uA y.un y.uc, .int .u64 (s.prev : Int), .int .u64 (s.next : Int), .bool s.clr, .int .u64 (s.stamp : Int), .slice y.pA y.pn y.pc, .slice y.dA y.dn y.dc]) := by rw [← Array.getD_eq_getD_getElem?]; exact e9
          refine rstep_callW (wanted_of 7 19 true rfl rfl e7) 19 #[(.agg #[.int .i64 t.kind, .int .u64 (t.lsn : Int), .int .u32 (t.epoch : Int), .int .u64 (t.txn : Int), .int .u32 (t.page : Int), .int .u16 (t.off : Int), .slice z.oA z.on z.oc, .slice z.nA z.nn z.nc, .slice z.uA z.un z.uc, .int .u64 (t.prev : Int), .int .u64 (t.next : Int), .bool t.clr, .int .u64 (t.stamp : Int), .slice z.pA z.pn z.pc, .slice z.dA z.dn z.dc]), (.agg #[.int .i64 s.kind, .int .u64 (s.lsn : Int), .int .u32 (s.epoch : Int), .int .u64 (s.txn : Int), .int .u32 (s.page : Int), .int .u16 (s.off : Int), .slice y.oA y.on y.oc, .slice y.nA y.nn y.nc, .slice y.uA y.un y.uc, .int .u64 (s.prev : Int), .int .u64 (s.next : Int), .bool s.clr, .int .u64 (s.stamp : Int), .slice y.pA y.pn y.pc, .slice y.dA y.dn y.dc])] (by go_simp) ?_
          refine (same_any t s z y w1 (HT.out.below hb) (HS.out.below hb)).mono ?_
          rintro e w2 ⟨r, rfl, HR, hb2⟩
          obtain rfl : bv = r := (Bool.eq_iff_iff.2 (HR.out.trans (eq_comm.trans HBV.out.symm))).symm
          exact ⟨zc, hp.put 10 22 (.bool bv) (by simp [lsP]) (by simp [lsP]) rfl (by rw [hsz0]; exact (by decide : 22 < 37)), hb.trans (hb2.mono hb.size), fun q => (hl (by rwa [upd_ne L (show (19 : Nat) ≠ 10 by decide)] at q)).below hb2⟩
        · intro L a w1 hI hi hd
          obtain ⟨zc, hp, hb, hl⟩ := hI
          simp [Region.binds] at hd
          have e7 : a.tmps.getD 19 undef = (.bool true) := hp.pu (7, 19, (.bool true)) (by simp [lsP]) (by simp [hd])
          have f7 : a.tmps[19]?.getD undef = (.bool true) := by rw [← Array.getD_eq_getD_getElem?]; exact e7
          have t0 := hp.at_ 2 _ rfl z2
          exact rstep_valW (wanted_of 7 19 true rfl rfl e7) (.agg #[.int .i64 s.kind, .int .u64 (s.lsn : Int), .int .u32 (s.epoch : Int), .int .u64 (s.txn : Int), .int .u32 (s.page : Int), .int .u16 (s.off : Int), .slice y.oA y.on y.oc, .slice y.nA y.nn y.nc, .slice y.uA y.un y.uc, .int .u64 (s.prev : Int), .int .u64 (s.next : Int), .bool s.clr, .int .u64 (s.stamp : Int), .slice y.pA y.pn y.pc, .slice y.dA y.dn y.dc]) w1 (exec_load_row _ (.tmp 2) rfl g1 t0 _ _ _ (HX.out.below hb HX.out.lt) Try.underlying31 rfl (by kernel_rfl)) ⟨zc, hp.put 11 23 (.agg #[.int .i64 s.kind, .int .u64 (s.lsn : Int), .int .u32 (s.epoch : Int), .int .u64 (s.txn : Int), .int .u32 (s.page : Int), .int .u16 (s.off : Int), .slice y.oA y.on y.oc, .slice y.nA y.nn y.nc, .slice y.uA y.un y.uc, .int .u64 (s.prev : Int), .int .u64 (s.next : Int), .bool s.clr, .int .u64 (s.stamp : Int), .slice y.pA y.pn y.pc, .slice y.dA y.dn y.dc]) (by simp [lsP]) (by simp [lsP]) rfl (by rw [hsz0]; exact (by decide : 23 < 37)), hb, fun q => hl (by rwa [upd_ne L (show (19 : Nat) ≠ 11 by decide)] at q)⟩
        · intro L a w1 hI hi hd
          obtain ⟨zc, hp, hb, hl⟩ := hI
          simp [Region.binds] at hd
          have e7 : a.tmps.getD 19 undef = (.bool true) := hp.pu (7, 19, (.bool true)) (by simp [lsP]) (by simp [hd])
          have f7 : a.tmps[19]?.getD undef = (.bool true) := by rw [← Array.getD_eq_getD_getElem?]; exact e7
          have t0 := hp.at_ 3 _ rfl z3
          exact rstep_valW (wanted_of 7 19 true rfl rfl e7) (.agg #[.int .i64 t.kind, .int .u64 (t.lsn : Int), .int .u32 (t.epoch : Int), .int .u64 (t.txn : Int), .int .u32 (t.page : Int), .int .u16 (t.off : Int), .slice z.oA z.on z.oc, .slice z.nA z.nn z.nc, .slice z.uA z.un z.uc, .int .u64 (t.prev : Int), .int .u64 (t.next : Int), .bool t.clr, .int .u64 (t.stamp : Int), .slice z.pA z.pn z.pc, .slice z.dA z.dn z.dc]) w1 (exec_load_row _ (.tmp 3) rfl g2 t0 _ _ _ (HY.out.below hb HY.out.lt) Try.underlying31 rfl (by kernel_rfl)) ⟨zc, hp.put 12 24 (.agg #[.int .i64 t.kind, .int .u64 (t.lsn : Int), .int .u32 (t.epoch : Int), .int .u64 (t.txn : Int), .int .u32 (t.page : Int), .int .u16 (t.off : Int), .slice z.oA z.on z.oc, .slice z.nA z.nn z.nc, .slice z.uA z.un z.uc, .int .u64 (t.prev : Int), .int .u64 (t.next : Int), .bool t.clr, .int .u64 (t.stamp : Int), .slice z.pA z.pn z.pc, .slice z.dA z.dn z.dc]) (by simp [lsP]) (by simp [lsP]) rfl (by rw [hsz0]; exact (by decide : 24 < 37)), hb, fun q => hl (by rwa [upd_ne L (show (19 : Nat) ≠ 12 by decide)] at q)⟩
        · intro L a w1 hI hi hd
          obtain ⟨zc, hp, hb, hl⟩ := hI
          simp [Region.binds] at hd
          have e7 : a.tmps.getD 19 undef = (.bool true) := hp.pu (7, 19, (.bool true)) (by simp [lsP]) (by simp [hd])
          have f7 : a.tmps[19]?.getD undef = (.bool true) := by rw [← Array.getD_eq_getD_getElem?]; exact e7
          have e11 : a.tmps.getD 23 undef = (.agg #[.int .i64 s.kind, .int .u64 (s.lsn : Int), .int .u32 (s.epoch : Int), .int .u64 (s.txn : Int), .int .u32 (s.page : Int), .int .u16 (s.off : Int), .slice y.oA y.on y.oc, .slice y.nA y.nn y.nc, .slice y.uA y.un y.uc, .int .u64 (s.prev : Int), .int .u64 (s.next : Int), .bool s.clr, .int .u64 (s.stamp : Int), .slice y.pA y.pn y.pc, .slice y.dA y.dn y.dc]) := hp.pu (11, 23, (.agg #[.int .i64 s.kind, .int .u64 (s.lsn : Int), .int .u32 (s.epoch : Int), .int .u64 (s.txn : Int), .int .u32 (s.page : Int), .int .u16 (s.off : Int), .slice y.oA y.on y.oc, .slice y.nA y.nn y.nc, .slice y.uA y.un y.uc, .int .u64 (s.prev : Int), .int .u64 (s.next : Int), .bool s.clr, .int .u64 (s.stamp : Int), .slice y.pA y.pn y.pc, .slice y.dA y.dn y.dc])) (by simp [lsP]) (by simp [hd])
          have f11 : a.tmps[23]?.getD undef = (.agg #[.int .i64 s.kind, .int .u64 (s.lsn : Int), .int .u32 (s.epoch : Int), .int .u64 (s.txn : Int), .int .u32 (s.page : Int), .int .u16 (s.off : Int), .slice y.oA y.on y.oc, .slice y.nA y.nn y.nc, .slice y.uA y.un y.uc, .int .u64 (s.prev : Int), .int .u64 (s.next : Int), .bool s.clr, .int .u64 (s.stamp : Int), .slice y.pA y.pn y.pc, .slice y.dA y.dn y.dc]) := by rw [← Array.getD_eq_getD_getElem?]; exact e11
          have e12 : a.tmps.getD 24 undef = (.agg #[.int .i64 t.kind, .int .u64 (t.lsn : Int), .int .u32 (t.epoch : Int), .int .u64 (t.txn : Int), .int .u32 (t.page : Int), .int .u16 (t.off : Int), .slice z.oA z.on z.oc, .slice z.nA z.nn z.nc, .slice z.uA z.un z.uc, .int .u64 (t.prev : Int), .int .u64 (t.next : Int), .bool t.clr, .int .u64 (t.stamp : Int), .slice z.pA z.pn z.pc, .slice z.dA z.dn z.dc]) := hp.pu (12, 24, (.agg #[.int .i64 t.kind, .int .u64 (t.lsn : Int), .int .u32 (t.epoch : Int), .int .u64 (t.txn : Int), .int .u32 (t.page : Int), .int .u16 (t.off : Int), .slice z.oA z.on z.oc, .slice z.nA z.nn z.nc, .slice z.uA z.un z.uc, .int .u64 (t.prev : Int), .int .u64 (t.next : Int), .bool t.clr, .int .u64 (t.stamp : Int), .slice z.pA z.pn z.pc, .slice z.dA z.dn z.dc])) (by simp [lsP]) (by simp [hd])
          have f12 : a.tmps[24]?.getD undef = (.agg #[.int .i64 t.kind, .int .u64 (t.lsn : Int), .int .u32 (t.epoch : Int), .int .u64 (t.txn : Int), .int .u32 (t.page : Int), .int .u16 (t.off : Int), .slice z.oA z.on z.oc, .slice z.nA z.nn z.nc, .slice z.uA z.un z.uc, .int .u64 (t.prev : Int), .int .u64 (t.next : Int), .bool t.clr, .int .u64 (t.stamp : Int), .slice z.pA z.pn z.pc, .slice z.dA z.dn z.dc]) := by rw [← Array.getD_eq_getD_getElem?]; exact e12
          refine rstep_callW (wanted_of 7 19 true rfl rfl e7) 11 #[(.agg #[.int .i64 s.kind, .int .u64 (s.lsn : Int), .int .u32 (s.epoch : Int), .int .u64 (s.txn : Int), .int .u32 (s.page : Int), .int .u16 (s.off : Int), .slice y.oA y.on y.oc, .slice y.nA y.nn y.nc, .slice y.uA y.un y.uc, .int .u64 (s.prev : Int), .int .u64 (s.next : Int), .bool s.clr, .int .u64 (s.stamp : Int), .slice y.pA y.pn y.pc, .slice y.dA y.dn y.dc]), (.agg #[.int .i64 t.kind, .int .u64 (t.lsn : Int), .int .u32 (t.epoch : Int), .int .u64 (t.txn : Int), .int .u32 (t.page : Int), .int .u16 (t.off : Int), .slice z.oA z.on z.oc, .slice z.nA z.nn z.nc, .slice z.uA z.un z.uc, .int .u64 (t.prev : Int), .int .u64 (t.next : Int), .bool t.clr, .int .u64 (t.stamp : Int), .slice z.pA z.pn z.pc, .slice z.dA z.dn z.dc])] (by go_simp) ?_
          refine (rsame_any s t y z w1 (HS.out.below hb) (HT.out.below hb)).mono ?_
          rintro e w2 ⟨r, rfl, HR, hb2⟩
          obtain rfl : bv = r := (Bool.eq_iff_iff.2 (HR.out.trans HBV.out.symm)).symm
          exact ⟨zc, hp.put 13 25 (.bool bv) (by simp [lsP]) (by simp [lsP]) rfl (by rw [hsz0]; exact (by decide : 25 < 37)), hb.trans (hb2.mono hb.size), fun q => (hl (by rwa [upd_ne L (show (19 : Nat) ≠ 13 by decide)] at q)).below hb2⟩
        · intro L a w1 hI hi hd
          obtain ⟨zc, hp, hb, hl⟩ := hI
          simp [Region.binds] at hd
          have e7 : a.tmps.getD 19 undef = (.bool true) := hp.pu (7, 19, (.bool true)) (by simp [lsP]) (by simp [hd])
          have f7 : a.tmps[19]?.getD undef = (.bool true) := by rw [← Array.getD_eq_getD_getElem?]; exact e7
          have e10 : a.tmps.getD 22 undef = (.bool bv) := hp.pu (10, 22, (.bool bv)) (by simp [lsP]) (by simp [hd])
          have f10 : a.tmps[22]?.getD undef = (.bool bv) := by rw [← Array.getD_eq_getD_getElem?]; exact e10
          have e13 : a.tmps.getD 25 undef = (.bool bv) := hp.pu (13, 25, (.bool bv)) (by simp [lsP]) (by simp [hd])
          have f13 : a.tmps[25]?.getD undef = (.bool bv) := by rw [← Array.getD_eq_getD_getElem?]; exact e13
          exact rstep_valW (wanted_of 7 19 true rfl rfl e7) (.bool true) w1 (by go_simp) ⟨zc, hp.put 14 26 (.bool true) (by simp [lsP]) (by simp [lsP]) rfl (by rw [hsz0]; exact (by decide : 26 < 37)), hb, fun q => hl (by rwa [upd_ne L (show (19 : Nat) ≠ 14 by decide)] at q)⟩
        · intro L a w1 hI hi hd
          obtain ⟨zc, hp, hb, hl⟩ := hI
          simp [Region.binds] at hd
          have e7 : a.tmps.getD 19 undef = (.bool true) := hp.pu (7, 19, (.bool true)) (by simp [lsP]) (by simp [hd])
          have f7 : a.tmps[19]?.getD undef = (.bool true) := by rw [← Array.getD_eq_getD_getElem?]; exact e7
          have e14 : a.tmps.getD 26 undef = (.bool true) := hp.pu (14, 26, (.bool true)) (by simp [lsP]) (by simp [hd])
          have f14 : a.tmps[26]?.getD undef = (.bool true) := by rw [← Array.getD_eq_getD_getElem?]; exact e14
          exact rstep_valW (wanted_none rfl _) (.bool true) w1 (by go_simp) ⟨zc, hp.put 15 27 (.bool true) (by simp [lsP]) (by simp [lsP]) rfl (by rw [hsz0]; exact (by decide : 27 < 37)), hb, fun q => hl (by rwa [upd_ne L (show (19 : Nat) ≠ 15 by decide)] at q)⟩
        · intro L a w1 hI hi hd
          obtain ⟨zc, hp, hb, hl⟩ := hI
          simp [Region.binds] at hd
          have e15 : a.tmps.getD 27 undef = (.bool true) := hp.pu (15, 27, (.bool true)) (by simp [lsP]) (by simp [hd])
          have f15 : a.tmps[27]?.getD undef = (.bool true) := by rw [← Array.getD_eq_getD_getElem?]; exact e15
          exact rstep_valW (wanted_none rfl _) (.bool true) w1 (by go_simp) ⟨zc, hp.put 16 28 (.bool true) (by simp [lsP]) (by simp [lsP]) rfl (by rw [hsz0]; exact (by decide : 28 < 37)), hb, fun q => hl (by rwa [upd_ne L (show (19 : Nat) ≠ 16 by decide)] at q)⟩
        · intro L a w1 hI hi hd
          obtain ⟨zc, hp, hb, hl⟩ := hI
          simp [Region.binds] at hd
          have e16 : a.tmps.getD 28 undef = (.bool true) := hp.pu (16, 28, (.bool true)) (by simp [lsP]) (by simp [hd])
          have f16 : a.tmps[28]?.getD undef = (.bool true) := by rw [← Array.getD_eq_getD_getElem?]; exact e16
          have t0 := hp.at_ 2 _ rfl z2
          exact rstep_valW (wanted_of 16 28 true rfl rfl e16) (.agg #[.int .i64 s.kind, .int .u64 (s.lsn : Int), .int .u32 (s.epoch : Int), .int .u64 (s.txn : Int), .int .u32 (s.page : Int), .int .u16 (s.off : Int), .slice y.oA y.on y.oc, .slice y.nA y.nn y.nc, .slice y.uA y.un y.uc, .int .u64 (s.prev : Int), .int .u64 (s.next : Int), .bool s.clr, .int .u64 (s.stamp : Int), .slice y.pA y.pn y.pc, .slice y.dA y.dn y.dc]) w1 (exec_load_row _ (.tmp 2) rfl g1 t0 _ _ _ (HX.out.below hb HX.out.lt) Try.underlying31 rfl (by kernel_rfl)) ⟨zc, hp.put 17 29 (.agg #[.int .i64 s.kind, .int .u64 (s.lsn : Int), .int .u32 (s.epoch : Int), .int .u64 (s.txn : Int), .int .u32 (s.page : Int), .int .u16 (s.off : Int), .slice y.oA y.on y.oc, .slice y.nA y.nn y.nc, .slice y.uA y.un y.uc, .int .u64 (s.prev : Int), .int .u64 (s.next : Int), .bool s.clr, .int .u64 (s.stamp : Int), .slice y.pA y.pn y.pc, .slice y.dA y.dn y.dc]) (by simp [lsP]) (by simp [lsP]) rfl (by rw [hsz0]; exact (by decide : 29 < 37)), hb, fun q => hl (by rwa [upd_ne L (show (19 : Nat) ≠ 17 by decide)] at q)⟩
        · intro L a w1 hI hi hd
          obtain ⟨zc, hp, hb, hl⟩ := hI
          simp [Region.binds] at hd
          have e16 : a.tmps.getD 28 undef = (.bool true) := hp.pu (16, 28, (.bool true)) (by simp [lsP]) (by simp [hd])
          have f16 : a.tmps[28]?.getD undef = (.bool true) := by rw [← Array.getD_eq_getD_getElem?]; exact e16
          have t0 := hp.at_ 2 _ rfl z2
          exact rstep_valW (wanted_of 16 28 true rfl rfl e16) (.agg #[.int .i64 s.kind, .int .u64 (s.lsn : Int), .int .u32 (s.epoch : Int), .int .u64 (s.txn : Int), .int .u32 (s.page : Int), .int .u16 (s.off : Int), .slice y.oA y.on y.oc, .slice y.nA y.nn y.nc, .slice y.uA y.un y.uc, .int .u64 (s.prev : Int), .int .u64 (s.next : Int), .bool s.clr, .int .u64 (s.stamp : Int), .slice y.pA y.pn y.pc, .slice y.dA y.dn y.dc]) w1 (exec_load_row _ (.tmp 2) rfl g1 t0 _ _ _ (HX.out.below hb HX.out.lt) Try.underlying31 rfl (by kernel_rfl)) ⟨zc, hp.put 18 30 (.agg #[.int .i64 s.kind, .int .u64 (s.lsn : Int), .int .u32 (s.epoch : Int), .int .u64 (s.txn : Int), .int .u32 (s.page : Int), .int .u16 (s.off : Int), .slice y.oA y.on y.oc, .slice y.nA y.nn y.nc, .slice y.uA y.un y.uc, .int .u64 (s.prev : Int), .int .u64 (s.next : Int), .bool s.clr, .int .u64 (s.stamp : Int), .slice y.pA y.pn y.pc, .slice y.dA y.dn y.dc]) (by simp [lsP]) (by simp [lsP]) rfl (by rw [hsz0]; exact (by decide : 30 < 37)), hb, fun q => hl (by rwa [upd_ne L (show (19 : Nat) ≠ 18 by decide)] at q)⟩
        · intro L a w1 hI hi hd
          obtain ⟨zc, hp, hb, hl⟩ := hI
          simp [Region.binds] at hd
          have e16 : a.tmps.getD 28 undef = (.bool true) := hp.pu (16, 28, (.bool true)) (by simp [lsP]) (by simp [hd])
          have f16 : a.tmps[28]?.getD undef = (.bool true) := by rw [← Array.getD_eq_getD_getElem?]; exact e16
          have e18 : a.tmps.getD 30 undef = (.agg #[.int .i64 s.kind, .int .u64 (s.lsn : Int), .int .u32 (s.epoch : Int), .int .u64 (s.txn : Int), .int .u32 (s.page : Int), .int .u16 (s.off : Int), .slice y.oA y.on y.oc, .slice y.nA y.nn y.nc, .slice y.uA y.un y.uc, .int .u64 (s.prev : Int), .int .u64 (s.next : Int), .bool s.clr, .int .u64 (s.stamp : Int), .slice y.pA y.pn y.pc, .slice y.dA y.dn y.dc]) := hp.pu (18, 30, (.agg #[.int .i64 s.kind, .int .u64 (s.lsn : Int), .int .u32 (s.epoch : Int), .int .u64 (s.txn : Int), .int .u32 (s.page : Int), .int .u16 (s.off : Int), .slice y.oA y.on y.oc, .slice y.nA y.nn y.nc, .slice y.uA y.un y.uc, .int .u64 (s.prev : Int), .int .u64 (s.next : Int), .bool s.clr, .int .u64 (s.stamp : Int), .slice y.pA y.pn y.pc, .slice y.dA y.dn y.dc])) (by simp [lsP]) (by simp [hd])
          have f18 : a.tmps[30]?.getD undef = (.agg #[.int .i64 s.kind, .int .u64 (s.lsn : Int), .int .u32 (s.epoch : Int), .int .u64 (s.txn : Int), .int .u32 (s.page : Int), .int .u16 (s.off : Int), .slice y.oA y.on y.oc, .slice y.nA y.nn y.nc, .slice y.uA y.un y.uc, .int .u64 (s.prev : Int), .int .u64 (s.next : Int), .bool s.clr, .int .u64 (s.stamp : Int), .slice y.pA y.pn y.pc, .slice y.dA y.dn y.dc]) := by rw [← Array.getD_eq_getD_getElem?]; exact e18
          have hi : L 19 = false := hi
          refine rstep_callW (wanted_of 16 28 true rfl rfl e16) 13 #[(.agg #[.int .i64 s.kind, .int .u64 (s.lsn : Int), .int .u32 (s.epoch : Int), .int .u64 (s.txn : Int), .int .u32 (s.page : Int), .int .u16 (s.off : Int), .slice y.oA y.on y.oc, .slice y.nA y.nn y.nc, .slice y.uA y.un y.uc, .int .u64 (s.prev : Int), .int .u64 (s.next : Int), .bool s.clr, .int .u64 (s.stamp : Int), .slice y.pA y.pn y.pc, .slice y.dA y.dn y.dc])] (by go_simp) ?_
          refine (copy_any s y w1 (HS.out.below hb) HLG.out).mono ?_
          rintro e w2 ⟨z2, rfl, hl2, hb2⟩
          exact ⟨z2, (PIF.swap (p2 := (lsP s t y z bv z2)) hp (by intro q hq hL; simp only [lsP, List.mem_cons, List.not_mem_nil, or_false] at hq; rcases hq with rfl | rfl | rfl | rfl | rfl | rfl | rfl | rfl | rfl | rfl | rfl | rfl | rfl | rfl | rfl | rfl | rfl | rfl | rfl | rfl | rfl | rfl | rfl | rfl | rfl | rfl <;> first | (simp [lsP]; done) | exact absurd hL (by show ¬ L 19 = true; rw [hi]; simp))).put 19 31 (.agg #[.int .i64 s.kind, .int .u64 (s.lsn : Int), .int .u32 (s.epoch : Int), .int .u64 (s.txn : Int), .int .u32 (s.page : Int), .int .u16 (s.off : Int), .slice z2.oA z2.on z2.oc, .slice z2.nA z2.nn z2.nc, .slice z2.uA z2.un z2.uc, .int .u64 (s.prev : Int), .int .u64 (s.next : Int), .bool s.clr, .int .u64 (s.stamp : Int), .slice z2.pA z2.pn z2.pc, .slice z2.dA z2.dn z2.dc]) (by simp [lsP]) (by simp [lsP]) rfl (by rw [hsz0]; exact (by decide : 31 < 37)), hb.trans (hb2.mono hb.size), fun _ => hl2.base_ hb.size⟩
        · intro L a w1 hI hi hd
          obtain ⟨zc, hp, hb, hl⟩ := hI
          simp [Region.binds] at hd
          have e16 : a.tmps.getD 28 undef = (.bool true) := hp.pu (16, 28, (.bool true)) (by simp [lsP]) (by simp [hd])
          have f16 : a.tmps[28]?.getD undef = (.bool true) := by rw [← Array.getD_eq_getD_getElem?]; exact e16
          have e17 : a.tmps.getD 29 undef = (.agg #[.int .i64 s.kind, .int .u64 (s.lsn : Int), .int .u32 (s.epoch : Int), .int .u64 (s.txn : Int), .int .u32 (s.page : Int), .int .u16 (s.off : Int), .slice y.oA y.on y.oc, .slice y.nA y.nn y.nc, .slice y.uA y.un y.uc, .int .u64 (s.prev : Int), .int .u64 (s.next : Int), .bool s.clr, .int .u64 (s.stamp : Int), .slice y.pA y.pn y.pc, .slice y.dA y.dn y.dc]) := hp.pu (17, 29, (.agg #[.int .i64 s.kind, .int .u64 (s.lsn : Int), .int .u32 (s.epoch : Int), .int .u64 (s.txn : Int), .int .u32 (s.page : Int), .int .u16 (s.off : Int), .slice y.oA y.on y.oc, .slice y.nA y.nn y.nc, .slice y.uA y.un y.uc, .int .u64 (s.prev : Int), .int .u64 (s.next : Int), .bool s.clr, .int .u64 (s.stamp : Int), .slice y.pA y.pn y.pc, .slice y.dA y.dn y.dc])) (by simp [lsP]) (by simp [hd])
          have f17 : a.tmps[29]?.getD undef = (.agg #[.int .i64 s.kind, .int .u64 (s.lsn : Int), .int .u32 (s.epoch : Int), .int .u64 (s.txn : Int), .int .u32 (s.page : Int), .int .u16 (s.off : Int), .slice y.oA y.on y.oc, .slice y.nA y.nn y.nc, .slice y.uA y.un y.uc, .int .u64 (s.prev : Int), .int .u64 (s.next : Int), .bool s.clr, .int .u64 (s.stamp : Int), .slice y.pA y.pn y.pc, .slice y.dA y.dn y.dc]) := by rw [← Array.getD_eq_getD_getElem?]; exact e17
          have e19 : a.tmps.getD 31 undef = (.agg #[.int .i64 s.kind, .int .u64 (s.lsn : Int), .int .u32 (s.epoch : Int), .int .u64 (s.txn : Int), .int .u32 (s.page : Int), .int .u16 (s.off : Int), .slice zc.oA zc.on zc.oc, .slice zc.nA zc.nn zc.nc, .slice zc.uA zc.un zc.uc, .int .u64 (s.prev : Int), .int .u64 (s.next : Int), .bool s.clr, .int .u64 (s.stamp : Int), .slice zc.pA zc.pn zc.pc, .slice zc.dA zc.dn zc.dc]) := hp.pu (19, 31, (.agg #[.int .i64 s.kind, .int .u64 (s.lsn : Int), .int .u32 (s.epoch : Int), .int .u64 (s.txn : Int), .int .u32 (s.page : Int), .int .u16 (s.off : Int), .slice zc.oA zc.on zc.oc, .slice zc.nA zc.nn zc.nc, .slice zc.uA zc.un zc.uc, .int .u64 (s.prev : Int), .int .u64 (s.next : Int), .bool s.clr, .int .u64 (s.stamp : Int), .slice zc.pA zc.pn zc.pc, .slice zc.dA zc.dn zc.dc])) (by simp [lsP]) (by simp [hd])
          have f19 : a.tmps[31]?.getD undef = (.agg #[.int .i64 s.kind, .int .u64 (s.lsn : Int), .int .u32 (s.epoch : Int), .int .u64 (s.txn : Int), .int .u32 (s.page : Int), .int .u16 (s.off : Int), .slice zc.oA zc.on zc.oc, .slice zc.nA zc.nn zc.nc, .slice zc.uA zc.un zc.uc, .int .u64 (s.prev : Int), .int .u64 (s.next : Int), .bool s.clr, .int .u64 (s.stamp : Int), .slice zc.pA zc.pn zc.pc, .slice zc.dA zc.dn zc.dc]) := by rw [← Array.getD_eq_getD_getElem?]; exact e19
          have hl1 := hl (by simp [hd])
          refine rstep_callW (wanted_of 16 28 true rfl rfl e16) 19 #[(.agg #[.int .i64 s.kind, .int .u64 (s.lsn : Int), .int .u32 (s.epoch : Int), .int .u64 (s.txn : Int), .int .u32 (s.page : Int), .int .u16 (s.off : Int), .slice y.oA y.on y.oc, .slice y.nA y.nn y.nc, .slice y.uA y.un y.uc, .int .u64 (s.prev : Int), .int .u64 (s.next : Int), .bool s.clr, .int .u64 (s.stamp : Int), .slice y.pA y.pn y.pc, .slice y.dA y.dn y.dc]), (.agg #[.int .i64 s.kind, .int .u64 (s.lsn : Int), .int .u32 (s.epoch : Int), .int .u64 (s.txn : Int), .int .u32 (s.page : Int), .int .u16 (s.off : Int), .slice zc.oA zc.on zc.oc, .slice zc.nA zc.nn zc.nc, .slice zc.uA zc.un zc.uc, .int .u64 (s.prev : Int), .int .u64 (s.next : Int), .bool s.clr, .int .u64 (s.stamp : Int), .slice zc.pA zc.pn zc.pc, .slice zc.dA zc.dn zc.dc])] (by go_simp) ?_
          refine (same_any s s y zc w1 (HS.out.below hb) (hl1.at_ HS.out.fit)).mono ?_
          rintro e w2 ⟨r, rfl, HR, hb2⟩
          obtain rfl : r = true := HR.out.2 rfl
          exact ⟨zc, hp.put 20 32 (.bool true) (by simp [lsP]) (by simp [lsP]) rfl (by rw [hsz0]; exact (by decide : 32 < 37)), hb.trans (hb2.mono hb.size), fun q => hl1.below hb2⟩
        · intro L a w1 hI hi hd
          obtain ⟨zc, hp, hb, hl⟩ := hI
          simp [Region.binds] at hd
          have e16 : a.tmps.getD 28 undef = (.bool true) := hp.pu (16, 28, (.bool true)) (by simp [lsP]) (by simp [hd])
          have f16 : a.tmps[28]?.getD undef = (.bool true) := by rw [← Array.getD_eq_getD_getElem?]; exact e16
          have e20 : a.tmps.getD 32 undef = (.bool true) := hp.pu (20, 32, (.bool true)) (by simp [lsP]) (by simp [hd])
          have f20 : a.tmps[32]?.getD undef = (.bool true) := by rw [← Array.getD_eq_getD_getElem?]; exact e20
          exact rstep_valW (wanted_none rfl _) (.bool true) w1 (by go_simp) ⟨zc, hp.put 21 33 (.bool true) (by simp [lsP]) (by simp [lsP]) rfl (by rw [hsz0]; exact (by decide : 33 < 37)), hb, fun q => hl (by rwa [upd_ne L (show (19 : Nat) ≠ 21 by decide)] at q)⟩
        · intro L a w1 hI hi hd
          obtain ⟨zc, hp, hb, hl⟩ := hI
          simp [Region.binds] at hd
          have e21 : a.tmps.getD 33 undef = (.bool true) := hp.pu (21, 33, (.bool true)) (by simp [lsP]) (by simp [hd])
          have f21 : a.tmps[33]?.getD undef = (.bool true) := by rw [← Array.getD_eq_getD_getElem?]; exact e21
          exact rstep_valW (wanted_none rfl _) (.bool true) w1 (by go_simp) ⟨zc, hp.put 22 34 (.bool true) (by simp [lsP]) (by simp [lsP]) rfl (by rw [hsz0]; exact (by decide : 34 < 37)), hb, fun q => hl (by rwa [upd_ne L (show (19 : Nat) ≠ 22 by decide)] at q)⟩
        · intro L a w1 hI hi hd
          obtain ⟨zc, hp, hb, hl⟩ := hI
          simp [Region.binds] at hd
          have e22 : a.tmps.getD 34 undef = (.bool true) := hp.pu (22, 34, (.bool true)) (by simp [lsP]) (by simp [hd])
          have f22 : a.tmps[34]?.getD undef = (.bool true) := by rw [← Array.getD_eq_getD_getElem?]; exact e22
          refine rstep_callW (wanted_of 22 34 true rfl rfl e22) 8 #[] (by go_simp) ?_
          refine (known09_any w1).mono ?_
          rintro e w2 ⟨rfl, hb2⟩
          exact ⟨zc, hp.put 23 35 (.bool true) (by simp [lsP]) (by simp [lsP]) rfl (by rw [hsz0]; exact (by decide : 35 < 37)), hb.trans (hb2.mono hb.size), fun q => (hl (by rwa [upd_ne L (show (19 : Nat) ≠ 23 by decide)] at q)).below hb2⟩
        · intro L a w1 hI hi hd
          obtain ⟨zc, hp, hb, hl⟩ := hI
          simp [Region.binds] at hd
          have e22 : a.tmps.getD 34 undef = (.bool true) := hp.pu (22, 34, (.bool true)) (by simp [lsP]) (by simp [hd])
          have f22 : a.tmps[34]?.getD undef = (.bool true) := by rw [← Array.getD_eq_getD_getElem?]; exact e22
          have e23 : a.tmps.getD 35 undef = (.bool true) := hp.pu (23, 35, (.bool true)) (by simp [lsP]) (by simp [hd])
          have f23 : a.tmps[35]?.getD undef = (.bool true) := by rw [← Array.getD_eq_getD_getElem?]; exact e23
          exact rstep_valW (wanted_none rfl _) (.bool true) w1 (by go_simp) ⟨zc, hp.put 24 36 (.bool true) (by simp [lsP]) (by simp [lsP]) rfl (by rw [hsz0]; exact (by decide : 36 < 37)), hb, fun q => hl (by rwa [upd_ne L (show (19 : Nat) ≠ 24 by decide)] at q)⟩
        · intro L a w1 hI hi hd
          obtain ⟨zc, hp, hb, hl⟩ := hI
          simp [Region.binds] at hd
          have e24 : a.tmps.getD 36 undef = (.bool true) := hp.pu (24, 36, (.bool true)) (by simp [lsP]) (by simp [hd])
          have f24 : a.tmps[36]?.getD undef = (.bool true) := by rw [← Array.getD_eq_getD_getElem?]; exact e24
          exact rstep_valW (wanted_none rfl _) (.bool true) w1 (by go_simp) ⟨zc, hp.put 25 4 (.bool true) (by simp [lsP]) (by simp [lsP]) rfl (by rw [hsz0]; exact (by decide : 4 < 37)), hb, fun q => hl (by rwa [upd_ne L (show (19 : Nat) ≠ 25 by decide)] at q)⟩
      rintro L a W0 ⟨zc, hp, hb, hl⟩ hL
      have e25 : a.tmps.getD 4 undef = (.bool true) := hp.pu (25, 4, _) (by simp [lsP]) (hL 25 (by simp))
      have HBW := Lib.hid (below_step hB2 hb (Nat.le_refl _))
      clear hl HX HY HS HT HLG HBV
      rw [hp.eq]
      refine of_assigns (P := Try.prog) _ _ _ _ ?_
      rw [ha0.out]
      simp only [asgs, List.map, e25]
      generalize a.tmps.getD 12 undef = u12
      generalize a.tmps.getD 13 undef = u13
      generalize a.tmps.getD 14 undef = u14
      generalize a.tmps.getD 15 undef = u15
      generalize a.tmps.getD 16 undef = u16
      generalize a.tmps.getD 17 undef = u17
      generalize a.tmps.getD 18 undef = u18
      generalize a.tmps.getD 19 undef = u19
      generalize a.tmps.getD 20 undef = u20
      generalize a.tmps.getD 21 undef = u21
      generalize a.tmps.getD 22 undef = u22
      generalize a.tmps.getD 23 undef = u23
      generalize a.tmps.getD 24 undef = u24
      generalize a.tmps.getD 25 undef = u25
      generalize a.tmps.getD 26 undef = u26
      generalize a.tmps.getD 27 undef = u27
      generalize a.tmps.getD 28 undef = u28
      generalize a.tmps.getD 29 undef = u29
      generalize a.tmps.getD 30 undef = u30
      generalize a.tmps.getD 31 undef = u31
      generalize a.tmps.getD 32 undef = u32
      generalize a.tmps.getD 33 undef = u33
      generalize a.tmps.getD 34 undef = u34
      generalize a.tmps.getD 35 undef = u35
      generalize a.tmps.getD 36 undef = u36
      clear hp hL e25 ha0 z2 z3 hsz0 hb hB2
      clear a0 a L
      go_wp2
      go_ret
      exact ⟨rfl, HBW.out⟩
end Go.Proofs.Ytpgmhjjdnanlgaa
/-! part -/
namespace Go.Proofs.Ytpgmhjjdnanlgaa.logrecSame
open Go.ChangeShapes Go.WideShapes Go.ChangeAt Go.RowKit
set_option linter.unusedVariables false
set_option maxRecDepth 100000 in
theorem lifted (os : Os) (started : os.Started) (H : Type) (enc : TypeId × Value → H) :
    ReturnsInHanded {} Try.checked os 6 .any (Rows.logrecSameSpec.pre6 enc Try.prog Try.f6 Rows.logrecSameRow.domain false) (Rows.logrecSameSpec.post enc Try.prog Try.f6 false true false false) := by
  refine returnsInHanded_of_change_sized (C := Try.checked) own started (by kernel_rfl) Try.func6
    (ChangeSpec.witness6 (enc := enc) (C := Try.checked) false ⟨#[], #[.agg #[.int .i64 0, .int .u64 0, .int .u32 0, .int .u64 0, .int .u32 0, .int .u16 0, .slice none 0 0, .slice none 0 0, .slice none 0 0, .int .u64 0, .int .u64 0, .bool false, .int .u64 0, .slice none 0 0, .slice none 0 0], .agg #[.int .i64 0, .int .u64 0, .int .u32 0, .int .u64 0, .int .u32 0, .int .u16 0, .slice none 0 0, .slice none 0 0, .slice none 0 0, .int .u64 0, .int .u64 0, .bool false, .int .u64 0, .slice none 0 0, .slice none 0 0]], []⟩ 8 (by kernel_rfl) (by kernel_rfl) (by kernel_rfl) (by kernel_rfl)) ?_
  intro W base args ds gs before hval0 hW _ hsz0 _
  have hsz : (DataW.weightsEach Try.prog (Try.f6.params.toList ++ Rows.logrecSameSpec.plain.varTypes Try.prog) (ds ++ gs)).all (· ≤ reachBytes) = true := hsz0
  clear hsz0
  have hval : ∀ (j : Nat) t v, Try.f6.params[j]? = some t → args[j]? = some v → Value.okWide Try.prog W .any base t v := hval0
  have hW' := hW
  obtain ⟨p, q, hA0, hV, rfl, hfz, hnd⟩ := hW
  have hA : DataW.TrodAll enc Try.prog W 0 (fun _ => true) true Try.f6.params.toList args.toList ds p := hA0
  rw [Try.params6] at hA hval hsz
  obtain ⟨v0, vs0, d0, ds0, p0, q0, hargs, rfl, rfl, h0, r_0⟩ := trodAll_cons hA
  obtain ⟨v1, vs1, d1, ds1, p1, q1, rfl, rfl, rfl, h1, r_1⟩ := trodAll_cons r_0
  obtain ⟨rfl, rfl, rfl⟩ := trodAll_nil r_1
  obtain rfl : args = #[v0, v1] := by cases args; simp_all
  obtain ⟨rfl, rfl⟩ := trodVars_none hV
  have k0 := h0
  have lt0 : ∀ x ∈ p0, x.block < W.heap.size := by obtain ⟨m, hm⟩ := k0; exact DataW.trod_lt m _ _ _ hm
  obtain ⟨s0, y0, rfl, a0⟩ := read_rec (hval 0 31 v0 rfl rfl) h0
  have k1 := h1
  have lt1 : ∀ x ∈ p1, x.block < W.heap.size := by obtain ⟨m, hm⟩ := k1; exact DataW.trod_lt m _ _ _ hm
  obtain ⟨s1, y1, rfl, a1⟩ := read_rec (hval 1 31 v1 rfl rfl) h1
  clear hA0 hval0
  refine (logrecSame_walk s0 y0 s1 y1 W a0 a1).mono fun e W' ⟨he, bel⟩ => ?_
  subst he
  exact ⟨_, rfl, _, _, _, [], _, [], hW', trodAll_mk1 (shut_bool Try.underlying4 _), (trodAll_cons_mk (Below.trod laidOut (by kernel_rfl) (of_decide_eq_true (by kernel_rfl)) k0 bel lt0) (trodAll_cons_mk (Below.trod laidOut (by kernel_rfl) (of_decide_eq_true (by kernel_rfl)) k1 bel lt1) trodAll_mk0)), rfl, bel.frame _, fun h => by cases h⟩

theorem over : Rows.logrecSameRow.holds Try.pinned (OpenSpec.ofChange Rows.logrecSameSpec) :=
  OpenClaim.holds_of_wide 6 Try.f6 rfl rfl rfl rfl rfl rfl rfl ⟨rfl, rfl, rfl, rfl, rfl⟩ rfl rfl rfl rfl rfl (by kernel_rfl) Try.func6 (by kernel_rfl)
    (of_decide_eq_true (by kernel_rfl)) (by unfold Func.isWrapper; rw [if_neg (of_decide_eq_false (by kernel_rfl))]; exact ⟨rfl, rfl⟩)
    (fun os started H enc _ => lifted os started H enc)

/-- The statement. -/
theorem proved : Rows.LogrecSameSaid := over
#print axioms proved
end Go.Proofs.Ytpgmhjjdnanlgaa.logrecSame
