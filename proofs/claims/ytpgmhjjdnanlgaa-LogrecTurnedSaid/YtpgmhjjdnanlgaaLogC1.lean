/-
  The document's copy of a record.
  Conditions: its lists lie in memory and are short.
-/
import Derived.Test.YtpgmhjjdnanlgaaLogR2
namespace Go.Proofs.Ytpgmhjjdnanlgaa
open Go.RowKit Go.Sort Go.Lib
set_option linter.unusedVariables false
set_option linter.unusedSimpArgs false
theorem info_chK : (Try.prog.info? 54).map (fun i => (i.zero, i.size, i.bytes)) = some (some (.agg #[.int .u64 0, .int .u64 0, .int .u64 0]), 3, 24) := by kernel_rfl
theorem info_dtK : (Try.prog.info? 56).map (fun i => (i.zero, i.size, i.bytes)) = some (some (.agg #[.int .u32 0, .int .u64 0]), 2, 16) := by kernel_rfl
theorem one_chs (l : List (Nat × Nat × Nat)) : ∀ u ∈ l.flatMap chC, u.oneCell' = true := by
  intro u hu
  obtain ⟨c, _, hc⟩ := List.mem_flatMap.1 hu
  simp only [chC, List.mem_cons, List.not_mem_nil, or_false] at hc
  rcases hc with rfl | rfl | rfl <;> rfl
theorem one_dts (l : List (Nat × Nat)) : ∀ u ∈ l.flatMap dtC, u.oneCell' = true := by
  intro u hu
  obtain ⟨c, _, hc⟩ := List.mem_flatMap.1 hu
  simp only [dtC, List.mem_cons, List.not_mem_nil, or_false] at hc
  rcases hc with rfl | rfl <;> rfl
theorem chs_len (l : List (Nat × Nat × Nat)) : (l.flatMap chC).length = l.length * 3 := by
  induction l with
  | nil => rfl
  | cons c l ih => rw [List.flatMap_cons, List.length_append, ih, List.length_cons]; simp [chC]; omega
theorem dts_len (l : List (Nat × Nat)) : (l.flatMap dtC).length = l.length * 2 := by
  induction l with
  | nil => rfl
  | cons c l ih => rw [List.flatMap_cons, List.length_append, ih, List.length_cons]; simp [dtC]; omega
theorem grown15c (w : World) (g : Nat) (v0 v1 v2 v3 v4 v5 v6 v7 v8 v9 v10 v11 v12 v13 v14 : Value) : w.grownBy ((((((((((((((((w.setCell ⟨g, 0, none⟩ v0).setCell ⟨g, 1, none⟩ v1).setCell ⟨g, 2, none⟩ v2).setCell ⟨g, 3, none⟩ v3).setCell ⟨g, 4, none⟩ v4).setCell ⟨g, 5, none⟩ v5).setCell ⟨g, 6, none⟩ v6).setCell ⟨g, 7, none⟩ v7).setCell ⟨g, 8, none⟩ v8).setCell ⟨g, 9, none⟩ v9).setCell ⟨g, 10, none⟩ v10).setCell ⟨g, 11, none⟩ v11).setCell ⟨g, 12, none⟩ v12).setCell ⟨g, 13, none⟩ v13).setCell ⟨g, 14, none⟩ v14)) (some g) :=
  grownBy_setB (grownBy_setB (grownBy_setB (grownBy_setB (grownBy_setB (grownBy_setB (grownBy_setB (grownBy_setB (grownBy_setB (grownBy_setB (grownBy_setB (grownBy_setB (grownBy_setB (grownBy_setB (grownBy_setB (World.grownBy.refl w (some g)) 0 v0) 1 v1) 2 v2) 3 v3) 4 v4) 5 v5) 6 v6) 7 v7) 8 v8) 9 v9) 10 v10) 11 v11) 12 v12) 13 v13) 14 v14
theorem Blk.set15c {w : World} {g : Nat} {t : TypeId} {u0 u1 u2 u3 u4 u5 u6 u7 u8 u9 u10 u11 u12 u13 u14 : Value} (h : Blk w g t #[u0, u1, u2, u3, u4, u5, u6, u7, u8, u9, u10, u11, u12, u13, u14]) (v0 v1 v2 v3 v4 v5 v6 v7 v8 v9 v10 v11 v12 v13 v14 : Value) : Blk ((((((((((((((((w.setCell ⟨g, 0, none⟩ v0).setCell ⟨g, 1, none⟩ v1).setCell ⟨g, 2, none⟩ v2).setCell ⟨g, 3, none⟩ v3).setCell ⟨g, 4, none⟩ v4).setCell ⟨g, 5, none⟩ v5).setCell ⟨g, 6, none⟩ v6).setCell ⟨g, 7, none⟩ v7).setCell ⟨g, 8, none⟩ v8).setCell ⟨g, 9, none⟩ v9).setCell ⟨g, 10, none⟩ v10).setCell ⟨g, 11, none⟩ v11).setCell ⟨g, 12, none⟩ v12).setCell ⟨g, 13, none⟩ v13).setCell ⟨g, 14, none⟩ v14)) g t #[v0, v1, v2, v3, v4, v5, v6, v7, v8, v9, v10, v11, v12, v13, v14] := by
  have := (((((((((((((((h.set_ 0 v0).set_ 1 v1).set_ 2 v2).set_ 3 v3).set_ 4 v4).set_ 5 v5).set_ 6 v6).set_ 7 v7).set_ 8 v8).set_ 9 v9).set_ 10 v10).set_ 11 v11).set_ 12 v12).set_ 13 v13).set_ 14 v14)
  simp only [List.setIfInBounds_toArray, List.set_cons_succ, List.set_cons_zero] at this
  exact this
theorem ret_cell1 {P : Program} {fn : Func} {R : Ending → World → Prop} {a : Act} {w : World} {p : Tmp} {ty : TypeId} (h : fn.results = #[.cell p ty]) (g : Nat) (cs : Array Value) (d : TypeDesc)
    (hp : a.tmps.getD p undef = .pointer (some ⟨g, 0, none⟩)) (hB : Blk w g ty cs) (hu : P.underlying ty = some d) (hd : (match d with | .struct _ | .array _ _ => true | _ => false) = true) (hi : (P.info? ty).map (·.size) = some cs.size)
    (hdf : a.defers = []) (hR : R (.returned (.agg cs)) w) : bodyPost P fn R .ret a w :=
  bodyPost_ret (results_cell_row h a.tmps w g ty cs (0, 0) d hp hB hu hd hi) hdf hR
/-- append onto an empty list just made. -/
theorem wpl_app0 {ops : Array Oper} {rest : List Oper} {o : Oper} {a : Act} {Q : Exit → Act → World → Prop} (V : World) (hgd : Region.wanted o (yielded ops a.tmps) = true) (s x : Operand) (t e : TypeId)
    (ho : o.op = .call { callee := .builtin .append, args := #[s, x], argTypes := #[t, t] }) (i : TypeInfo) (z : Value) (size bytes : Nat) (ht : Try.prog.underlying t = some (.slice e)) (hi : Try.prog.info? e = some i) (hz : i.zero = some z)
    (hsize : i.size = size) (hby : i.bytes = bytes) (hzs : z.cells.size = size) (hsz : 0 < size) (hs : a.eval s = .slice (some ⟨V.heap.size, 0, none⟩) 0 0)
    (A : Option Addr) (m c : Nat) (news : List Value) (hx : a.eval x = .slice A m c) (hlen : news.length = m * size) (hr : Row V A news) (h1 : ∀ u ∈ news, u.oneCell' = true) (hm : m ≤ 100000) (hb : bytes ≤ 1000)
    (h : ∀ A' c' w', w'.ownsRow V.heap.size e size (.slice A' m c') m news → Below V.heap.size V w' → wpList Try.prog ops Q rest (a.put o.dst (.slice A' m c')) w') : wpList Try.prog ops Q (o :: rest) a (V.alloc (.cells #[] e)) := by
  have hown : (V.alloc (.cells #[] e)).ownsRow V.heap.size e size (.slice (some ⟨V.heap.size, 0, none⟩) 0 0) 0 [] := World.ownsRow_made V #[] 0 (Nat.le_refl _) (Nat.zero_le _) (by simp)
  have hmul : (0 + m) * bytes ≤ 140737488355328 := by
    have : m * bytes ≤ 100000 * 1000 := Nat.mul_le_mul hm hb
    rw [Nat.zero_add]; omega
  refine wpl_append _ hgd s x t ho V.heap.size e i z size bytes ht hi hz hsize hby hzs hsz _ 0 [] hs hown A m c news hx hlen (hr.alloc _) h1 (by unfold maxLen; omega) hmul (by simp) fun A' c' w' h2 h3 h4 => ?_
  rw [Nat.zero_add] at h2 ⊢
  refine h A' c' w' h2 ?_
  exact ((Below.refl V.heap.size V).alloc (Nat.le_refl _) _).grown h3 (by simp) (fun k hk => by simp [Value.ownBlock] at hk; omega)
set_option maxRecDepth 100000 in
set_option maxHeartbeats 8000000 in
theorem copy_any (s : Lrec) (y : Lsl) (w : World) (hs : LogAt w y s) (hl : y.on ≤ 2000 ∧ y.nn ≤ 2000 ∧ y.un ≤ 2000 ∧ y.pn ≤ 2000 ∧ y.dn ≤ 2000) :
    Calls Try.prog 13 #[.agg #[.int .i64 s.kind, .int .u64 (s.lsn : Int), .int .u32 (s.epoch : Int), .int .u64 (s.txn : Int), .int .u32 (s.page : Int), .int .u16 (s.off : Int), .slice y.oA y.on y.oc, .slice y.nA y.nn y.nc, .slice y.uA y.un y.uc, .int .u64 (s.prev : Int), .int .u64 (s.next : Int), .bool s.clr, .int .u64 (s.stamp : Int), .slice y.pA y.pn y.pc, .slice y.dA y.dn y.dc]] w fun e w' => ∃ z : Lsl, e = .returned (.agg #[.int .i64 s.kind, .int .u64 (s.lsn : Int), .int .u32 (s.epoch : Int), .int .u64 (s.txn : Int), .int .u32 (s.page : Int), .int .u16 (s.off : Int), .slice z.oA z.on z.oc, .slice z.nA z.nn z.nc, .slice z.uA z.un z.uc, .int .u64 (s.prev : Int), .int .u64 (s.next : Int), .bool s.clr, .int .u64 (s.stamp : Int), .slice z.pA z.pn z.pc, .slice z.dA z.dn z.dc]) ∧ Lown w' w.heap.size z s ∧ Below w.heap.size w w' := by
  have HS0 := Lib.hid hs
  obtain ⟨hl1, hl2, hl3, hl4, hl5⟩ := hl
  clear hs
  obtain ⟨kind, lsn, epoch, txn, page, off, old, new, undo, prev, next, clr, stamp, opn, dirty⟩ := s
  obtain ⟨oA, on, oc, nA, nn, nc, uA, un, uc, pA, pn, pc, dA, dn, dc⟩ := y
  dsimp only at hl1 hl2 hl3 hl4 hl5
  go_enter Try.func13, Try.ntmps13
  have hx := Blk.new w 31 #[.int .i64 kind, .int .u64 (lsn : Int), .int .u32 (epoch : Int), .int .u64 (txn : Int), .int .u32 (page : Int), .int .u16 (off : Int), .slice oA on oc, .slice nA nn nc, .slice uA un uc, .int .u64 (prev : Int), .int .u64 (next : Int), .bool clr, .int .u64 (stamp : Int), .slice pA pn pc, .slice dA dn dc]
  have hz := Blk.new (w.alloc (.cells #[.int .i64 kind, .int .u64 (lsn : Int), .int .u32 (epoch : Int), .int .u64 (txn : Int), .int .u32 (page : Int), .int .u16 (off : Int), .slice oA on oc, .slice nA nn nc, .slice uA un uc, .int .u64 (prev : Int), .int .u64 (next : Int), .bool clr, .int .u64 (stamp : Int), .slice pA pn pc, .slice dA dn dc] 31)) 31 #[.int .i64 0, .int .u64 0, .int .u32 0, .int .u64 0, .int .u32 0, .int .u16 0, .slice none 0 0, .slice none 0 0, .slice none 0 0, .int .u64 0, .int .u64 0, .bool false, .int .u64 0, .slice none 0 0, .slice none 0 0]
  have hb : Below w.heap.size w ((w.alloc (.cells #[.int .i64 kind, .int .u64 (lsn : Int), .int .u32 (epoch : Int), .int .u64 (txn : Int), .int .u32 (page : Int), .int .u16 (off : Int), .slice oA on oc, .slice nA nn nc, .slice uA un uc, .int .u64 (prev : Int), .int .u64 (next : Int), .bool clr, .int .u64 (stamp : Int), .slice pA pn pc, .slice dA dn dc] 31)).alloc (.cells #[.int .i64 0, .int .u64 0, .int .u32 0, .int .u64 0, .int .u32 0, .int .u16 0, .slice none 0 0, .slice none 0 0, .slice none 0 0, .int .u64 0, .int .u64 0, .bool false, .int .u64 0, .slice none 0 0, .slice none 0 0] 31)) := ((Below.refl w.heap.size w).alloc (Nat.le_refl _) _).alloc (by simp) _
  have hx := hx.alloc (.cells #[.int .i64 0, .int .u64 0, .int .u32 0, .int .u64 0, .int .u32 0, .int .u16 0, .slice none 0 0, .slice none 0 0, .slice none 0 0, .int .u64 0, .int .u64 0, .bool false, .int .u64 0, .slice none 0 0, .slice none 0 0] 31)
  have e1 : (w.alloc (.cells #[.int .i64 kind, .int .u64 (lsn : Int), .int .u32 (epoch : Int), .int .u64 (txn : Int), .int .u32 (page : Int), .int .u16 (off : Int), .slice oA on oc, .slice nA nn nc, .slice uA un uc, .int .u64 (prev : Int), .int .u64 (next : Int), .bool clr, .int .u64 (stamp : Int), .slice pA pn pc, .slice dA dn dc] 31)).heap.size = w.heap.size + 1 := by simp
  rw [e1] at hz
  go_upto_region 1 with fail
  generalize (w.alloc (.cells #[.int .i64 kind, .int .u64 (lsn : Int), .int .u32 (epoch : Int), .int .u64 (txn : Int), .int .u32 (page : Int), .int .u16 (off : Int), .slice oA on oc, .slice nA nn nc, .slice uA un uc, .int .u64 (prev : Int), .int .u64 (next : Int), .bool clr, .int .u64 (stamp : Int), .slice pA pn pc, .slice dA dn dc] 31)).alloc (.cells #[.int .i64 0, .int .u64 0, .int .u32 0, .int .u64 0, .int .u32 0, .int .u16 0, .slice none 0 0, .slice none 0 0, .slice none 0 0, .int .u64 0, .int .u64 0, .bool false, .int .u64 0, .slice none 0 0, .slice none 0 0] 31) = Va at *
  obtain ⟨g, hg⟩ : ∃ g, w.heap.size = g := ⟨_, rfl⟩
  obtain ⟨gz, hgz⟩ : ∃ gz, w.heap.size + 1 = gz := ⟨_, rfl⟩
  rw [hg] at hx
  rw [hgz] at hz
  rw [hg] at hgz
  simp only [hg, hgz]
  have HG := Lib.hid (And.intro hg hgz)
  clear hg hgz e1
  obtain ⟨d0, d1, d2, d3, d4, d5, d6, d7, d8, d9, d10, d11, d12, d13, d14⟩ := hx.c15
  go_upto_region 2 with fail
  clear d0 d1 d2 d3 d4 d5 d6 d7 d8 d9 d10 d11 d12 d13 d14
  have hc0 := Blk.new Va 31 #[.int .i64 kind, .int .u64 (lsn : Int), .int .u32 (epoch : Int), .int .u64 (txn : Int), .int .u32 (page : Int), .int .u16 (off : Int), .slice oA on oc, .slice nA nn nc, .slice uA un uc, .int .u64 (prev : Int), .int .u64 (next : Int), .bool clr, .int .u64 (stamp : Int), .slice pA pn pc, .slice dA dn dc]
  have hba : Below Va.heap.size Va (Va.alloc (.cells #[.int .i64 kind, .int .u64 (lsn : Int), .int .u32 (epoch : Int), .int .u64 (txn : Int), .int .u32 (page : Int), .int .u16 (off : Int), .slice oA on oc, .slice nA nn nc, .slice uA un uc, .int .u64 (prev : Int), .int .u64 (next : Int), .bool clr, .int .u64 (stamp : Int), .slice pA pn pc, .slice dA dn dc] 31)) := (Below.refl _ _).alloc (Nat.le_refl _) _
  have hx0 := hx.below hba hx.lt
  have hz0 := hz.below hba hz.lt
  have hB0 := below_step hb hba (Nat.le_refl _)
  have hgc : Va.heap.size < (Va.alloc (.cells #[.int .i64 kind, .int .u64 (lsn : Int), .int .u32 (epoch : Int), .int .u64 (txn : Int), .int .u32 (page : Int), .int .u16 (off : Int), .slice oA on oc, .slice nA nn nc, .slice uA un uc, .int .u64 (prev : Int), .int .u64 (next : Int), .bool clr, .int .u64 (stamp : Int), .slice pA pn pc, .slice dA dn dc] 31)).heap.size := by simp
  have hgz2 := hz.lt
  generalize Va.alloc (.cells #[.int .i64 kind, .int .u64 (lsn : Int), .int .u32 (epoch : Int), .int .u64 (txn : Int), .int .u32 (page : Int), .int .u16 (off : Int), .slice oA on oc, .slice nA nn nc, .slice uA un uc, .int .u64 (prev : Int), .int .u64 (next : Int), .bool clr, .int .u64 (stamp : Int), .slice pA pn pc, .slice dA dn dc] 31) = V0 at *
  obtain ⟨gc, hgc2⟩ : ∃ gc, Va.heap.size = gc := ⟨_, rfl⟩
  rw [hgc2] at hc0 hgc hgz2
  simp only [hgc2]
  clear hx hz hb hba hgc2
  clear Va
  obtain ⟨b0, hb0⟩ : ∃ b0, V0.heap.size = b0 := ⟨_, rfl⟩
  have hsz0 : b0 ≤ V0.heap.size := Nat.le_of_eq hb0.symm
  rw [hb0] at hgc
  have hgz3 : gz < b0 := by omega
  have HGE : Hid (w.heap.size ≤ g ∧ w.heap.size ≤ gz ∧ w.heap.size ≤ gc ∧ w.heap.size ≤ b0) := Lib.hid (by have h1 := HG.out.1; have h2 := HG.out.2; omega)
  have hgx : g < gc := by have h1 := HG.out.1; have h2 := HG.out.2; omega
  clear hb0
  obtain ⟨d0, d1, d2, d3, d4, d5, d6, d7, d8, d9, d10, d11, d12, d13, d14⟩ := (hx0.alloc (.cells #[] 5)).c15
  have hrow := (HS0.out.below hB0).ro
  obtain ⟨i0, hi0, iz1, iz2, iz3⟩ := info_parts info_u8
  have HXX := Lib.hid (And.intro hx0 (And.intro hz0 (And.intro hc0 hB0)))
  clear hx0 hz0 hc0 hB0
  go_wp2_with (at_builtin; refine wpl_app0 V0 rfl (.tmp 5) (.tmp 7) 22 5 rfl i0 _ 1 1 Try.underlying22 hi0 iz1 iz2 iz3 rfl (by omega) rfl oA on oc (bs old) rfl (by rw [bs_length, HS0.out.lo]; simp) hrow (bs_one _) (by omega) (by omega) ?_)
  intro oA' oc' Vn hoo hbn
  obtain ⟨hx0, hz0, hc0, hB0⟩ := HXX.out
  clear d0 d1 d2 d3 d4 d5 d6 d7 d8 d9 d10 d11 d12 d13 d14 hrow HXX
  have hcn := hc0.below hbn hc0.lt
  have hkc := hcn.frozen 6
  obtain ⟨d0, d1, d2, d3, d4, d5, d6, d7, d8, d9, d10, d11, d12, d13, d14⟩ := hcn.c15
  go_upto_region 3 with fail
  clear d0 d1 d2 d3 d4 d5 d6 d7 d8 d9 d10 d11 d12 d13 d14 hkc
  have hgN := grownBy_setCell Vn gc 6 (.slice oA' on oc')
  have hc1 := hcn.set_ 6 (.slice oA' on oc')
  simp only [List.setIfInBounds_toArray, List.set_cons_succ, List.set_cons_zero] at hc1
  have hx1 := (hx0.below hbn hx0.lt).grown hgN (fun q => by injection q with q; omega)
  have hz1 := (hz0.below hbn hz0.lt).grown hgN (fun q => by injection q with q; omega)
  have hB1 := below_grown (below_step hB0 hbn (Nat.le_refl _)) hgN (below_step hB0 hbn (Nat.le_refl _)).size HGE.out.2.2.1
  have hsz1 := Nat.le_trans (Nat.le_trans hsz0 hbn.size) hgN.size
  have howo := owns_kept (owns_base hoo hsz0) hgN hgc
  generalize (Vn.setCell ⟨gc, 6, none⟩ (.slice oA' on oc')) = V1 at *
  clear hgN hcn hbn hx0 hz0 hc0 hB0 hsz0 hoo Vn
  obtain ⟨d0, d1, d2, d3, d4, d5, d6, d7, d8, d9, d10, d11, d12, d13, d14⟩ := (hx1.alloc (.cells #[] 5)).c15
  have hrow := (HS0.out.below hB1).rn
  obtain ⟨i0, hi0, iz1, iz2, iz3⟩ := info_parts info_u8
  have HXX := Lib.hid (And.intro hx1 (And.intro hz1 (And.intro hc1 hB1)))
  clear hx1 hz1 hc1 hB1
  go_wp2_with (at_builtin; refine wpl_app0 V1 rfl (.tmp 10) (.tmp 12) 22 5 rfl i0 _ 1 1 Try.underlying22 hi0 iz1 iz2 iz3 rfl (by omega) rfl nA nn nc (bs new) rfl (by rw [bs_length, HS0.out.ln]; simp) hrow (bs_one _) (by omega) (by omega) ?_)
  intro nA' nc' Vn hon hbn
  obtain ⟨hx1, hz1, hc1, hB1⟩ := HXX.out
  clear d0 d1 d2 d3 d4 d5 d6 d7 d8 d9 d10 d11 d12 d13 d14 hrow HXX
  have hcn := hc1.below hbn hc1.lt
  have hkc := hcn.frozen 7
  obtain ⟨d0, d1, d2, d3, d4, d5, d6, d7, d8, d9, d10, d11, d12, d13, d14⟩ := hcn.c15
  go_upto_region 4 with fail
  clear d0 d1 d2 d3 d4 d5 d6 d7 d8 d9 d10 d11 d12 d13 d14 hkc
  have hgN := grownBy_setCell Vn gc 7 (.slice nA' nn nc')
  have hc2 := hcn.set_ 7 (.slice nA' nn nc')
  simp only [List.setIfInBounds_toArray, List.set_cons_succ, List.set_cons_zero] at hc2
  have hx2 := (hx1.below hbn hx1.lt).grown hgN (fun q => by injection q with q; omega)
  have hz2 := (hz1.below hbn hz1.lt).grown hgN (fun q => by injection q with q; omega)
  have hB2 := below_grown (below_step hB1 hbn (Nat.le_refl _)) hgN (below_step hB1 hbn (Nat.le_refl _)).size HGE.out.2.2.1
  have hsz2 := Nat.le_trans (Nat.le_trans hsz1 hbn.size) hgN.size
  have hown := owns_kept (owns_base hon hsz1) hgN hgc
  have howo := owns_kept (owns_below howo hbn) hgN hgc
  generalize (Vn.setCell ⟨gc, 7, none⟩ (.slice nA' nn nc')) = V2 at *
  clear hgN hcn hbn hx1 hz1 hc1 hB1 hsz1 hon Vn
  obtain ⟨d0, d1, d2, d3, d4, d5, d6, d7, d8, d9, d10, d11, d12, d13, d14⟩ := (hx2.alloc (.cells #[] 5)).c15
  have hrow := (HS0.out.below hB2).ru
  obtain ⟨i0, hi0, iz1, iz2, iz3⟩ := info_parts info_u8
  have HXX := Lib.hid (And.intro hx2 (And.intro hz2 (And.intro hc2 hB2)))
  clear hx2 hz2 hc2 hB2
  go_wp2_with (at_builtin; refine wpl_app0 V2 rfl (.tmp 15) (.tmp 17) 22 5 rfl i0 _ 1 1 Try.underlying22 hi0 iz1 iz2 iz3 rfl (by omega) rfl uA un uc (bs undo) rfl (by rw [bs_length, HS0.out.lu]; simp) hrow (bs_one _) (by omega) (by omega) ?_)
  intro uA' uc' Vn hou hbn
  obtain ⟨hx2, hz2, hc2, hB2⟩ := HXX.out
  clear d0 d1 d2 d3 d4 d5 d6 d7 d8 d9 d10 d11 d12 d13 d14 hrow HXX
  have hcn := hc2.below hbn hc2.lt
  have hkc := hcn.frozen 8
  obtain ⟨d0, d1, d2, d3, d4, d5, d6, d7, d8, d9, d10, d11, d12, d13, d14⟩ := hcn.c15
  go_upto_region 5 with fail
  clear d0 d1 d2 d3 d4 d5 d6 d7 d8 d9 d10 d11 d12 d13 d14 hkc
  have hgN := grownBy_setCell Vn gc 8 (.slice uA' un uc')
  have hc3 := hcn.set_ 8 (.slice uA' un uc')
  simp only [List.setIfInBounds_toArray, List.set_cons_succ, List.set_cons_zero] at hc3
  have hx3 := (hx2.below hbn hx2.lt).grown hgN (fun q => by injection q with q; omega)
  have hz3 := (hz2.below hbn hz2.lt).grown hgN (fun q => by injection q with q; omega)
  have hB3 := below_grown (below_step hB2 hbn (Nat.le_refl _)) hgN (below_step hB2 hbn (Nat.le_refl _)).size HGE.out.2.2.1
  have hsz3 := Nat.le_trans (Nat.le_trans hsz2 hbn.size) hgN.size
  have howu := owns_kept (owns_base hou hsz2) hgN hgc
  have howo := owns_kept (owns_below howo hbn) hgN hgc
  have hown := owns_kept (owns_below hown hbn) hgN hgc
  generalize (Vn.setCell ⟨gc, 8, none⟩ (.slice uA' un uc')) = V3 at *
  clear hgN hcn hbn hx2 hz2 hc2 hB2 hsz2 hou Vn
  obtain ⟨d0, d1, d2, d3, d4, d5, d6, d7, d8, d9, d10, d11, d12, d13, d14⟩ := (hx3.alloc (.cells #[] 54)).c15
  have hrow := (HS0.out.below hB3).rp
  obtain ⟨i0, hi0, iz1, iz2, iz3⟩ := info_parts info_chK
  have HXX := Lib.hid (And.intro hx3 (And.intro hz3 (And.intro hc3 hB3)))
  clear hx3 hz3 hc3 hB3
  go_wp2_with (at_builtin; refine wpl_app0 V3 rfl (.tmp 20) (.tmp 22) 28 54 rfl i0 _ 3 24 Try.underlying28 hi0 iz1 iz2 iz3 rfl (by omega) rfl pA pn pc (opn.flatMap chC) rfl (by rw [chs_len, HS0.out.lp]) hrow (one_chs _) (by omega) (by omega) ?_)
  intro pA' pc' Vn hop hbn
  obtain ⟨hx3, hz3, hc3, hB3⟩ := HXX.out
  clear d0 d1 d2 d3 d4 d5 d6 d7 d8 d9 d10 d11 d12 d13 d14 hrow HXX
  have hcn := hc3.below hbn hc3.lt
  have hkc := hcn.frozen 13
  obtain ⟨d0, d1, d2, d3, d4, d5, d6, d7, d8, d9, d10, d11, d12, d13, d14⟩ := hcn.c15
  go_upto_region 6 with fail
  clear d0 d1 d2 d3 d4 d5 d6 d7 d8 d9 d10 d11 d12 d13 d14 hkc
  have hgN := grownBy_setCell Vn gc 13 (.slice pA' pn pc')
  have hc4 := hcn.set_ 13 (.slice pA' pn pc')
  simp only [List.setIfInBounds_toArray, List.set_cons_succ, List.set_cons_zero] at hc4
  have hx4 := (hx3.below hbn hx3.lt).grown hgN (fun q => by injection q with q; omega)
  have hz4 := (hz3.below hbn hz3.lt).grown hgN (fun q => by injection q with q; omega)
  have hB4 := below_grown (below_step hB3 hbn (Nat.le_refl _)) hgN (below_step hB3 hbn (Nat.le_refl _)).size HGE.out.2.2.1
  have hsz4 := Nat.le_trans (Nat.le_trans hsz3 hbn.size) hgN.size
  have howp := owns_kept (owns_base hop hsz3) hgN hgc
  have howo := owns_kept (owns_below howo hbn) hgN hgc
  have hown := owns_kept (owns_below hown hbn) hgN hgc
  have howu := owns_kept (owns_below howu hbn) hgN hgc
  generalize (Vn.setCell ⟨gc, 13, none⟩ (.slice pA' pn pc')) = V4 at *
  clear hgN hcn hbn hx3 hz3 hc3 hB3 hsz3 hop Vn
  obtain ⟨d0, d1, d2, d3, d4, d5, d6, d7, d8, d9, d10, d11, d12, d13, d14⟩ := (hx4.alloc (.cells #[] 56)).c15
  have hrow := (HS0.out.below hB4).rd
  obtain ⟨i0, hi0, iz1, iz2, iz3⟩ := info_parts info_dtK
  have HXX := Lib.hid (And.intro hx4 (And.intro hz4 (And.intro hc4 hB4)))
  clear hx4 hz4 hc4 hB4
  go_wp2_with (at_builtin; refine wpl_app0 V4 rfl (.tmp 25) (.tmp 27) 29 56 rfl i0 _ 2 16 Try.underlying29 hi0 iz1 iz2 iz3 rfl (by omega) rfl dA dn dc (dirty.flatMap dtC) rfl (by rw [dts_len, HS0.out.ld]) hrow (one_dts _) (by omega) (by omega) ?_)
  intro dA' dc' Vn hod hbn
  obtain ⟨hx4, hz4, hc4, hB4⟩ := HXX.out
  clear d0 d1 d2 d3 d4 d5 d6 d7 d8 d9 d10 d11 d12 d13 d14 hrow HXX
  have hcn := hc4.below hbn hc4.lt
  have hkc := hcn.frozen 14
  obtain ⟨d0, d1, d2, d3, d4, d5, d6, d7, d8, d9, d10, d11, d12, d13, d14⟩ := hcn.c15
  go_upto_region 7 with fail
  clear d0 d1 d2 d3 d4 d5 d6 d7 d8 d9 d10 d11 d12 d13 d14 hkc
  have hgN := grownBy_setCell Vn gc 14 (.slice dA' dn dc')
  have hc5 := hcn.set_ 14 (.slice dA' dn dc')
  simp only [List.setIfInBounds_toArray, List.set_cons_succ, List.set_cons_zero] at hc5
  have hx5 := (hx4.below hbn hx4.lt).grown hgN (fun q => by injection q with q; omega)
  have hz5 := (hz4.below hbn hz4.lt).grown hgN (fun q => by injection q with q; omega)
  have hB5 := below_grown (below_step hB4 hbn (Nat.le_refl _)) hgN (below_step hB4 hbn (Nat.le_refl _)).size HGE.out.2.2.1
  have hsz5 := Nat.le_trans (Nat.le_trans hsz4 hbn.size) hgN.size
  have howd := owns_kept (owns_base hod hsz4) hgN hgc
  have howo := owns_kept (owns_below howo hbn) hgN hgc
  have hown := owns_kept (owns_below hown hbn) hgN hgc
  have howu := owns_kept (owns_below howu hbn) hgN hgc
  have howp := owns_kept (owns_below howp hbn) hgN hgc
  generalize (Vn.setCell ⟨gc, 14, none⟩ (.slice dA' dn dc')) = V5 at *
  clear hgN hcn hbn hx4 hz4 hc4 hB4 hsz4 hod Vn
  obtain ⟨d0, d1, d2, d3, d4, d5, d6, d7, d8, d9, d10, d11, d12, d13, d14⟩ := hc5.c15
  obtain ⟨e0, e1, e2, e3, e4, e5, e6, e7, e8, e9, e10, e11, e12, e13, e14⟩ := hz5.c15
  have k0 := hz5.frozen
  have HH := Lib.hid (And.intro hz5 (And.intro hB5 (And.intro howo (And.intro hown (And.intro howu (And.intro howp howd))))))
  clear hz5 hc5 hx5 howo hown howu howp howd
  have hbs := hB5.size
  clear hB5
  go_wp2
  refine ret_cell1 rfl gz #[.int .i64 kind, .int .u64 (lsn : Int), .int .u32 (epoch : Int), .int .u64 (txn : Int), .int .u32 (page : Int), .int .u16 (off : Int), .slice oA' on oc', .slice nA' nn nc', .slice uA' un uc', .int .u64 (prev : Int), .int .u64 (next : Int), .bool clr, .int .u64 (stamp : Int), .slice pA' pn pc', .slice dA' dn dc'] _ rfl (HH.out.1.set15c _ _ _ _ _ _ _ _ _ _ _ _ _ _ _) Try.underlying31 rfl (by kernel_rfl) rfl ?_
  obtain ⟨hz5, hB5, howo, hown, howu, howp, howd⟩ := HH.out
  refine ⟨⟨oA', on, oc', nA', nn, nc', uA', un, uc', pA', pn, pc', dA', dn, dc'⟩, rfl, ?_, below_grown hB5 (grown15c _ _ _ _ _ _ _ _ _ _ _ _ _ _ _ _ _) hbs HGE.out.2.1⟩
  have hl : Lown V5 b0 ⟨oA', on, oc', nA', nn, nc', uA', un, uc', pA', pn, pc', dA', dn, dc'⟩ ⟨kind, lsn, epoch, txn, page, off, old, new, undo, prev, next, clr, stamp, opn, dirty⟩ := ⟨by unfold Own; rw [HS0.out.lo]; exact howo, by unfold Own; rw [HS0.out.ln]; exact hown, by unfold Own; rw [HS0.out.lu]; exact howu, howp, howd, HS0.out.lo, HS0.out.ln, HS0.out.lu, HS0.out.lp, HS0.out.ld⟩
  exact (hl.kept (grown15c _ _ _ _ _ _ _ _ _ _ _ _ _ _ _ _ _) hgz3).base_ HGE.out.2.2.2
end Go.Proofs.Ytpgmhjjdnanlgaa
