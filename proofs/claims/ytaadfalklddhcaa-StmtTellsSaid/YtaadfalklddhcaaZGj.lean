/-
  The makers of writers.
  Conditions: what is handed in lies in memory.
-/
import Derived.Test.YtaadfalklddhcaaZAj
import Derived.Test.YtaadfalklddhcaaZBj
import Derived.Test.YtaadfalklddhcaaZEj
/-! part -/
namespace Go.Proofs.Ytaadfalklddhcaa
open Go.RowKit Go.Sort Go.Lib
set_option linter.unusedVariables false
set_option linter.unusedSimpArgs false
/-- Bytes of the call's own, with more behind them. -/
def PutP (base : Nat) (lm : List UInt8) (w : World) (e : Ending) (w' : World) : Prop := ∃ A' n' c', e = .returned (.slice A' n' c') ∧ Hid (lm.length = n') ∧ Own w' base A' c' lm ∧ Below base w w'
/-- A writer of the bytes m. -/
def WrOk (w0 : World) (v : Value) (m : List UInt8) : Prop := ∃ (fn : FuncId) (caps : Array Value), v = .func (.func fn) #[] caps ∧ (∀ (args : Array Value) (w : World), (callFunc fn args).run Try.prog w = .ok (.enter fn args) w) ∧
  ∀ (w : World) (base : Nat) (A : Option Addr) (n c : Nat) (l : List UInt8), Below w0.heap.size w0 w → w0.heap.size ≤ base → base ≤ w.heap.size → Own w base A c l → l.length = n → l.length + m.length ≤ 1000000000000 →
    Calls Try.prog fn (#[.slice A n c] ++ caps) w (PutP base (l ++ m) w)
theorem WrOk.below {w0 w1 : World} {v : Value} {m : List UInt8} (h : WrOk w0 v m) (hb : Below w0.heap.size w0 w1) : WrOk w1 v m := by
  obtain ⟨fn, caps, rfl, hp, hc⟩ := h
  exact ⟨fn, caps, rfl, hp, fun w base A n c l h1 h2 h3 h4 h5 h6 => hc w base A n c l (hb.trans (h1.mono hb.size)) (Nat.le_trans hb.size h2) h3 h4 h5 h6⟩
set_option maxRecDepth 100000 in
theorem u8w_any (g : Nat) (k : Int) (u : UInt8) (w0 : World) (hc : w0.cell? ⟨g, 0, none⟩ = some (.int .i64 k)) (hk : IntKind.u8.wrap k = (u.toNat : Int)) : WrOk w0 (.func (.func 98) #[] #[.pointer (some ⟨g, 0, none⟩)]) [u] := by
  refine ⟨_, _, rfl, fun args w => by go_simp, fun w base A n c l hb hwb hbs hO hn hlm => ?_⟩
  have hcw : w.cell? ⟨g, 0, none⟩ = some (.int .i64 k) := by rw [hb.cell (World.block_lt_of_cell? w0 _ hc)]; exact hc
  have hg := World.block_lt_of_cell? w _ hcw
  go_enter Try.func98, Try.ntmps98
  go_wp2_with (at_builtin; refine wpl_app' _ rfl (.tmp 4) (.tmp 7) rfl base A c l n rfl hn (hO.alloc _) (some ⟨w.heap.size, 0, none⟩) 1 [u] 1 rfl rfl (row_one w _ u rfl) ?_ ?_ ?_)
  · first | omega | (simp at hlm; omega)
  · first | omega | (simp; omega)
  intro A' c' w' h1 h2 h3
  go_wp2
  go_ret
  refine ⟨A', n + 1, c', rfl, Lib.hid (by simp [hn]), h1, ?_⟩
  refine Own.grown_below (hO.alloc (.cells #[.int .u8 (u.toNat : Int)] 5)) (by rw [hn]) h2 ((Below.refl base w).alloc hbs _) (Nat.le_refl _) (by simp; omega)
set_option maxRecDepth 100000 in
set_option maxHeartbeats 4000000 in
/-- One thing behind the other. -/
theorem all_any (A : Option Addr) (n c : Nat) (vs : List Value) (ms : List (List UInt8)) (w : World) (hr : Row w A vs) (hn : vs.length = n) (hm : ms.length = n) (hn6 : n ≤ 1000)
    (hw : ∀ (i : Nat) (v : Value) (m : List UInt8), vs[i]? = some v → ms[i]? = some m → WrOk w v m) (hlen : ms.flatten.length ≤ 1000000000000) :
    Calls Try.prog 58 #[.slice A n c] w (PutP w.heap.size ms.flatten w) := by
  have HW := Lib.hid hw
  have HM := Lib.hid hm
  have HN := Lib.hid hn
  have HR := Lib.hid hr
  have HL := Lib.hid hlen
  clear hw hm hn hr hlen
  go_enter Try.func58, Try.ntmps58
  go_wp2
  go_loopw [3, 8] (fun b i wr => ∃ (q : Nat) (B : Option Addr) (bn bc : Nat), i = .int .i64 (q : Int) ∧ q ≤ n ∧ b = .slice B bn bc ∧ Hid ((ms.take q).flatten.length = bn) ∧ Own wr w.heap.size B bc (ms.take q).flatten ∧ Below w.heap.size w wr) (fun _ i _ => n - (RowKit.intOf i).toNat)
  case atStart => exact ⟨0, none, 0, 0, rfl, Nat.zero_le _, rfl, Lib.hid rfl, Own.nil_ _ _, Below.refl _ _⟩
  case round =>
    obtain ⟨q, B, bn, bc, rfl, hq, rfl, hbn, hO, hB⟩ := hrel
    by_cases hlt : q < n
    · obtain ⟨v, hv⟩ : ∃ v, vs[q]? = some v := ⟨_, List.getElem?_eq_getElem (by rw [HN.out]; exact hlt)⟩
      obtain ⟨m, hm⟩ : ∃ m, ms[q]? = some m := ⟨_, List.getElem?_eq_getElem (by rw [HM.out]; exact hlt)⟩
      obtain ⟨fn, caps, rfl, hp, hc⟩ := HW.out q v m hv hm
      have HP := Lib.hid hp
      clear hp
      have hcell : ∃ b o, A = some ⟨b, o, none⟩ ∧ wr.cell? ⟨b, o + q, none⟩ = some (.func (.func fn) #[] caps) := by
        rcases HR.out.below hB with h | ⟨b, o, e, h⟩
        · rw [h] at hv; simp at hv
        · exact ⟨b, o, e, h _ _ hv⟩
      obtain ⟨ab, ao, rfl, hcell⟩ := hcell
      have htk : (ms.take (q + 1)).flatten = (ms.take q).flatten ++ m := by
        rw [List.take_add_one, hm, List.flatten_append]; simp
      have hle : (ms.take q).flatten.length + m.length ≤ 1000000000000 := by
        have h1 := HL.out
        have h2 : ms.flatten.length = (ms.take (q + 1)).flatten.length + (ms.drop (q + 1)).flatten.length := by
          rw [← List.length_append, ← List.flatten_append, List.take_append_drop]
        rw [htk, List.length_append] at h2
        omega
      have HC := Lib.hid (hc wr w.heap.size B bn bc (ms.take q).flatten hB (Nat.le_refl _) hB.size hO hbn.out hle)
      have HTK := Lib.hid htk
      clear hc hv hm htk hle hO
      go_wp2_with fail
      rw [HP.out, Oper.upon_enter]
      refine HC.out.mono ?_
      rintro e w2 ⟨A', n', c', rfl, hn', hO', hb'⟩
      have HO := Lib.hid (And.intro hn'.out (And.intro hO' (hB.trans hb')))
      clear hB hb' hO' hn' hbn HC HP
      go_wp2
      go_roundw
      case rel => exact ⟨q + 1, A', n', c', by go_num, by omega, rfl, Lib.hid (by rw [HTK.out]; exact HO.out.1), by rw [HTK.out]; exact HO.out.2.1, HO.out.2.2⟩
      case measure => simp [RowKit.intOf]; omega
    · obtain rfl : n = q := by omega
      have HX := Lib.hid (And.intro hO hB)
      clear hO hB
      go_wp2
      go_ret
      have htk : ms.take n = ms := List.take_of_length_le (by rw [HM.out]; exact Nat.le_refl _)
      rw [htk] at hbn HX
      exact ⟨B, bn, bc, rfl, hbn, HX.out.1, HX.out.2⟩
end Go.Proofs.Ytaadfalklddhcaa
/-! part -/
namespace Go.Proofs.Ytaadfalklddhcaa
open Go.RowKit Go.Sort Go.Lib
set_option linter.unusedVariables false
set_option linter.unusedSimpArgs false
set_option maxRecDepth 100000 in
theorem u64w_any (g k : Nat) (w0 : World) (hc : w0.cell? ⟨g, 0, none⟩ = some (.int .u64 (k : Int))) (hk : k < 18446744073709551616) : WrOk w0 (.func (.func 100) #[] #[.pointer (some ⟨g, 0, none⟩)]) (CodeM.fx 8 k) := by
  refine ⟨_, _, rfl, fun args w => by go_simp, fun w base A n c l hb hwb hbs hO hn hlm => ?_⟩
  have hcw : w.cell? ⟨g, 0, none⟩ = some (.int .u64 (k : Int)) := by rw [hb.cell (World.block_lt_of_cell? w0 _ hc)]; exact hc
  have hl : l.length ≤ 140737488355000 := by omega
  have HC := Lib.hid (Put64_any A c k l w hO.row hl hk)
  rw [hn] at HC
  clear hl
  go_enter Try.func100, Try.ntmps100
  go_wp2_with fail
  refine HC.out.mono ?_
  rintro e w2 ⟨A', n', c', rfl, hn', hO', hb'⟩
  go_wp2
  go_ret
  exact ⟨A', n', c', rfl, hn', hO'.base_ hbs, hb'.mono hbs⟩
set_option maxRecDepth 100000 in
theorem recw_any (g : Nat) (m : List UInt8) (B : Option Addr) (bn bc : Nat) (w0 : World) (hc : w0.cell? ⟨g, 0, none⟩ = some (.slice B bn bc)) (hr : Row w0 B (bs m)) (hm : m.length = bn) : WrOk w0 (.func (.func 99) #[] #[.pointer (some ⟨g, 0, none⟩)]) m := by
  refine ⟨_, _, rfl, fun args w => by go_simp, fun w base A n c l hb hwb hbs hO hn hlm => ?_⟩
  have hcw : w.cell? ⟨g, 0, none⟩ = some (.slice B bn bc) := by rw [hb.cell (World.block_lt_of_cell? w0 _ hc)]; exact hc
  have hrw : Row w B (bs m) := hr.below hb
  go_enter Try.func99, Try.ntmps99
  go_wp2_with (at_builtin; refine wpl_app' _ rfl (.tmp 4) (.tmp 5) rfl base A c l n rfl hn hO B bc m bn rfl hm hrw ?_ ?_ ?_)
  · omega
  · omega
  intro A' c' w' h1 h2 h3
  go_wp2
  go_ret
  refine ⟨A', n + bn, c', rfl, Lib.hid (by rw [List.length_append, hn, hm]), h1, ?_⟩
  exact Own.grown_below hO (by rw [hn]) h2 (Below.refl base w) (Nat.le_refl _) hbs
set_option maxRecDepth 100000 in
theorem u16w_any (g k : Nat) (w0 : World) (hc : w0.cell? ⟨g, 0, none⟩ = some (.int .i64 (k : Int))) (hk : k < 65536) : WrOk w0 (.func (.func 107) #[] #[.pointer (some ⟨g, 0, none⟩)]) (CodeM.fx 2 k) := by
  refine ⟨_, _, rfl, fun args w => by go_simp, fun w base A n c l hb hwb hbs hO hn hlm => ?_⟩
  have hcw : w.cell? ⟨g, 0, none⟩ = some (.int .i64 (k : Int)) := by rw [hb.cell (World.block_lt_of_cell? w0 _ hc)]; exact hc
  have hl : l.length ≤ 140737488355000 := by omega
  have HC := Lib.hid (Put16_any A c k l w hO.row hl (by omega))
  rw [hn] at HC
  clear hl
  have hwk : IntKind.u16.wrap (k : Int) = (k : Int) := by rw [IntKind.wrap_u16]; omega
  go_enter Try.func107, Try.ntmps107
  go_wp2_with fail
  refine HC.out.mono ?_
  rintro e w2 ⟨A', n', c', rfl, hn', hO', hb'⟩
  go_wp2
  go_ret
  exact ⟨A', n', c', rfl, hn', hO'.base_ hbs, hb'.mono hbs⟩
set_option maxRecDepth 100000 in
theorem uvw_any (g k : Nat) (w0 : World) (hc : w0.cell? ⟨g, 0, none⟩ = some (.int .i64 (k : Int))) (hk : k < 9223372036854775808) : WrOk w0 (.func (.func 109) #[] #[.pointer (some ⟨g, 0, none⟩)]) (CodeM.uv k) := by
  refine ⟨_, _, rfl, fun args w => by go_simp, fun w base A n c l hb hwb hbs hO hn hlm => ?_⟩
  have hcw : w.cell? ⟨g, 0, none⟩ = some (.int .i64 (k : Int)) := by rw [hb.cell (World.block_lt_of_cell? w0 _ hc)]; exact hc
  have hl : l.length ≤ 140737488355000 := by omega
  have HC := Lib.hid (putuv_any A c k l w hO.row hl (by omega))
  rw [hn] at HC
  clear hl
  have hwk : IntKind.u64.wrap (k : Int) = (k : Int) := by rw [IntKind.wrap_u64]; omega
  go_enter Try.func109, Try.ntmps109
  go_wp2_with fail
  refine HC.out.mono ?_
  rintro e w2 ⟨A', n', c', rfl, hn', hO', hb'⟩
  go_wp2
  go_ret
  exact ⟨A', n', c', rfl, hn', hO'.base_ hbs, hb'.mono hbs⟩
set_option maxRecDepth 100000 in
theorem textw_any (g : Nat) (m : List UInt8) (B : Option Addr) (bn bc : Nat) (w0 : World) (hc : w0.cell? ⟨g, 0, none⟩ = some (.slice B bn bc)) (hr : Row w0 B (bs m)) (hm : m.length = bn) : WrOk w0 (.func (.func 105) #[] #[.pointer (some ⟨g, 0, none⟩)]) (CodeM.tx m) := by
  refine ⟨_, _, rfl, fun args w => by go_simp, fun w base A n c l hb hwb hbs hO hn hlm => ?_⟩
  have hcw : w.cell? ⟨g, 0, none⟩ = some (.slice B bn bc) := by rw [hb.cell (World.block_lt_of_cell? w0 _ hc)]; exact hc
  have hl : l.length + m.length ≤ 140737488354000 := by
    have h : (CodeM.tx m).length = (CodeM.uv m.length).length + m.length := by unfold CodeM.tx; rw [List.length_append]
    omega
  have HC := Lib.hid (PutText_any A B c bc l m w hO.row (hr.below hb) hl)
  rw [hn, hm] at HC
  clear hl
  go_enter Try.func105, Try.ntmps105
  go_wp2_with fail
  refine HC.out.mono ?_
  rintro e w2 ⟨A', n', c', rfl, hn', hO', hb'⟩
  go_wp2
  go_ret
  exact ⟨A', n', c', rfl, hn', hO'.base_ hbs, hb'.mono hbs⟩
end Go.Proofs.Ytaadfalklddhcaa
/-! part -/
namespace Go.Proofs.Ytaadfalklddhcaa
open Go.RowKit Go.Sort Go.Lib
set_option linter.unusedVariables false
set_option linter.unusedSimpArgs false
set_option maxRecDepth 100000 in
set_option maxHeartbeats 4000000 in
theorem numw_any (g : Nat) (xs : List Int) (B : Option Addr) (bn bc : Nat) (w0 : World) (hc : w0.cell? ⟨g, 0, none⟩ = some (.slice B bn bc)) (hr : Row w0 B (i32s xs)) (hm : xs.length = bn) (hb5 : bn ≤ 100000) (hv : ∀ v ∈ xs, -2147483648 ≤ v ∧ v < 2147483648) :
    WrOk w0 (.func (.func 102) #[] #[.pointer (some ⟨g, 0, none⟩)]) (CodeM.uv xs.length ++ ItemM.vb xs) := by
  refine ⟨_, _, rfl, fun args w => by go_simp, fun w base A n c l hb hwb hbs hO hn hlm => ?_⟩
  have hcw : w.cell? ⟨g, 0, none⟩ = some (.slice B bn bc) := by rw [hb.cell (World.block_lt_of_cell? w0 _ hc)]; exact hc
  have HR0 := Lib.hid hr
  have HB0 := Lib.hid hb
  have HLM := Lib.hid hlm
  have HM := Lib.hid hm
  have HV := Lib.hid hv
  have hl : l.length ≤ 140737488355000 := by omega
  have hl2 : l.length ≤ 1000000000000 := by omega
  have HC := Lib.hid (putuv_any A c bn l w hO.row hl (by omega))
  rw [hn] at HC hl2
  have HN := Lib.hid hn
  have hwk : IntKind.u64.wrap (bn : Int) = (bn : Int) := by rw [IntKind.wrap_u64]; omega
  have hg0 := World.block_lt_of_cell? w _ hcw
  clear hl hc hr hm hv hO hn hlm
  go_enter Try.func102, Try.ntmps102
  go_wp2_with fail
  refine HC.out.mono ?_
  rintro e w2 ⟨A1, n1, c1, rfl, hn1, hO1, hb1⟩
  have hcw2 := cell_below hb1 hcw
  have HI := Lib.hid (And.intro hn1.out (And.intro (hO1.base_ hbs) (hb1.mono hbs)))
  have hsz := hb1.size
  have HBS := Lib.hid (Nat.le_trans hbs hsz)
  clear HC hcw hwk hn1 hO1 hb1 hsz hb
  go_wp2
  go_loopw [0, 13] (fun b i wr => ∃ (q : Nat) (A2 : Option Addr) (n2 c2 : Nat), i = .int .i64 (q : Int) ∧ q ≤ bn ∧ b = .slice A2 n2 c2 ∧ Hid ((l ++ CodeM.uv bn ++ ItemM.vb (xs.take q)).length = n2) ∧ Own wr base A2 c2 (l ++ CodeM.uv bn ++ ItemM.vb (xs.take q)) ∧ Below base w wr) (fun _ i _ => bn - (RowKit.intOf i).toNat)
  case atStart => exact ⟨0, A1, n1, c1, rfl, Nat.zero_le _, rfl, Lib.hid (by simpa [ItemM.vb] using HI.out.1), by simpa [ItemM.vb] using HI.out.2.1, HI.out.2.2⟩
  case round =>
    obtain ⟨q, A2, n2, c2, rfl, hq, rfl, hn2, hO2, hB2⟩ := hrel
    by_cases hlt : q < bn
    · obtain ⟨x, hx⟩ : ∃ x, xs[q]? = some x := ⟨_, List.getElem?_eq_getElem (by rw [HM.out]; exact hlt)⟩
      have hR := HR0.out.below (HB0.out.trans (hB2.mono hwb))
      obtain ⟨ab, ao, rfl, hcell⟩ := row_i32 hR hx
      have hxr := HV.out x (List.mem_of_getElem? hx)
      obtain ⟨m, hmx⟩ : ∃ m, ItemM.u32 x = m := ⟨_, rfl⟩
      have hmi : (m : Int) = x % 4294967296 := by rw [← hmx]; unfold ItemM.u32; omega
      have hm32 : m < 4294967296 := by rw [← hmx]; exact ItemM.u32_lt x
      have e0 : x % 256 = ((CodeM.byte (m / 256 ^ 0 % 256)).toNat : Int) := by rw [← byte_low m]; omega
      have e1 : x / 256 % 256 = ((CodeM.byte (m / 256 ^ 1 % 256)).toNat : Int) := by rw [show (256 : Nat) ^ 1 = 256 from rfl, ← byte_int m 256]; omega
      have e2 : x / 65536 % 256 = ((CodeM.byte (m / 256 ^ 2 % 256)).toNat : Int) := by rw [show (256 : Nat) ^ 2 = 65536 from rfl, ← byte_int m 65536]; omega
      have e3 : x / 16777216 % 256 = ((CodeM.byte (m / 256 ^ 3 % 256)).toNat : Int) := by rw [show (256 : Nat) ^ 3 = 16777216 from rfl, ← byte_int m 16777216]; omega
      have HROW := Lib.hid (row_4 wr (x % 256) (x / 256 % 256) (x / 65536 % 256) (x / 16777216 % 256) m e0 e1 e2 e3)
      have htk : xs.take (q + 1) = xs.take q ++ [x] := by rw [List.take_add_one, hx]; rfl
      have hnext : l ++ CodeM.uv bn ++ ItemM.vb (xs.take (q + 1)) = l ++ CodeM.uv bn ++ ItemM.vb (xs.take q) ++ CodeM.fx 4 m := by rw [htk, ItemM.vb_snoc, hmx, List.append_assoc _ _ (CodeM.fx 4 m)]
      have hn2b : n2 ≤ 1000000000000 := by
        have h1 := hn2.out
        have h2 := HLM.out
        rw [HM.out] at h2
        simp only [List.length_append, ItemM.vb_length, List.length_take] at h1 h2
        omega
      have HNX := Lib.hid hnext
      have HO2 := Lib.hid (And.intro hO2 hB2)
      have hsz : base ≤ wr.heap.size := Nat.le_trans hbs hB2.size
      clear e0 e1 e2 e3 hmi hm32 hmx htk hnext hO2 hB2 hR hx
      go_wp2_with (at_builtin; refine wpl_app' _ rfl (.tmp 17) (.tmp 29) rfl base A2 c2 (l ++ CodeM.uv bn ++ ItemM.vb (xs.take q)) n2 rfl hn2.out (HO2.out.1.alloc _) (some ⟨wr.heap.size, 0, none⟩) 4 (CodeM.fx 4 m) 4 rfl (CodeM.fx_length _ _) HROW.out ?_ ?_ ?_)
      · omega
      · first | omega | (simp; omega)
      intro A' c' w' h1 h2 h3
      have hbw : Below base w w' := by
        refine Own.grown_below (HO2.out.1.alloc (.cells #[.int .u8 (x % 256), .int .u8 (x / 256 % 256), .int .u8 (x / 65536 % 256), .int .u8 (x / 16777216 % 256)] 5)) ?_ h2 (HO2.out.2.alloc hsz _) (Nat.le_refl _) (by simp; omega)
        rw [hn2.out]
      have HF := Lib.hid (And.intro h1 hbw)
      clear h1 h2 h3 hbw hcell
      go_wp2
      go_roundw
      case rel => exact ⟨q + 1, A', n2 + 4, c', by go_num, by omega, rfl, Lib.hid (by rw [HNX.out, List.length_append, hn2.out, CodeM.fx_length]), by rw [HNX.out]; simpa only [List.append_assoc] using HF.out.1, HF.out.2⟩
      case measure => simp [RowKit.intOf]; omega
    · obtain rfl : bn = q := by omega
      have HX := Lib.hid (And.intro hO2 hB2)
      clear hO2 hB2
      go_wp2
      go_ret
      have htk : xs.take bn = xs := List.take_of_length_le (by rw [HM.out]; exact Nat.le_refl _)
      rw [htk] at hn2 HX
      rw [HM.out]
      exact ⟨A2, n2, c2, rfl, Lib.hid (by rw [← List.append_assoc]; exact hn2.out), by rw [← List.append_assoc]; exact HX.out.1, HX.out.2⟩
end Go.Proofs.Ytaadfalklddhcaa
/-! part -/
namespace Go.Proofs.Ytaadfalklddhcaa
open Go.RowKit Go.Sort Go.Lib
set_option linter.unusedVariables false
set_option linter.unusedSimpArgs false
/-- A writer is handed back. -/
def MkP (m : List UInt8) (w : World) (e : Ending) (w' : World) : Prop := ∃ v, e = .returned v ∧ WrOk w' v m ∧ Below w.heap.size w w'
set_option maxRecDepth 100000 in
theorem mku8_any (k : Int) (u : UInt8) (w : World) (hk : IntKind.u8.wrap k = (u.toNat : Int)) : Calls Try.prog 52 #[.int .i64 k] w (MkP ([u]) w) := by
  go_enter Try.func52, Try.ntmps52
  go_wp2
  go_ret
  exact ⟨_, rfl, u8w_any w.heap.size k u _ ((Blk.new w 3 #[.int .i64 k]).cell 0) hk, (Below.refl _ _).alloc (Nat.le_refl _) _⟩
set_option maxRecDepth 100000 in
theorem mku16_any (k : Nat) (w : World) (hk : k < 65536) : Calls Try.prog 59 #[.int .i64 (k : Int)] w (MkP (CodeM.fx 2 k) w) := by
  go_enter Try.func59, Try.ntmps59
  go_wp2
  go_ret
  exact ⟨_, rfl, u16w_any w.heap.size k _ ((Blk.new w 3 #[.int .i64 (k : Int)]).cell 0) hk, (Below.refl _ _).alloc (Nat.le_refl _) _⟩
set_option maxRecDepth 100000 in
theorem mkuv_any (k : Nat) (w : World) (hk : k < 9223372036854775808) : Calls Try.prog 60 #[.int .i64 (k : Int)] w (MkP (CodeM.uv k) w) := by
  go_enter Try.func60, Try.ntmps60
  go_wp2
  go_ret
  exact ⟨_, rfl, uvw_any w.heap.size k _ ((Blk.new w 3 #[.int .i64 (k : Int)]).cell 0) hk, (Below.refl _ _).alloc (Nat.le_refl _) _⟩
set_option maxRecDepth 100000 in
theorem mku64_any (k : Nat) (w : World) (hk : k < 18446744073709551616) : Calls Try.prog 54 #[.int .u64 (k : Int)] w (MkP (CodeM.fx 8 k) w) := by
  go_enter Try.func54, Try.ntmps54
  go_wp2
  go_ret
  exact ⟨_, rfl, u64w_any w.heap.size k _ ((Blk.new w 27 #[.int .u64 (k : Int)]).cell 0) hk, (Below.refl _ _).alloc (Nat.le_refl _) _⟩
set_option maxRecDepth 100000 in
theorem mktext_any (m : List UInt8) (B : Option Addr) (bn bc : Nat) (w : World) (hr : Row w B (bs m)) (hm : m.length = bn) : Calls Try.prog 57 #[.slice B bn bc] w (MkP (CodeM.tx m) w) := by
  go_enter Try.func57, Try.ntmps57
  go_wp2
  go_ret
  exact ⟨_, rfl, textw_any w.heap.size m B bn bc _ ((Blk.new w 22 #[.slice B bn bc]).cell 0) (hr.alloc _) hm, (Below.refl _ _).alloc (Nat.le_refl _) _⟩
set_option maxRecDepth 100000 in
theorem mknum_any (xs : List Int) (B : Option Addr) (bn bc : Nat) (w : World) (hr : Row w B (i32s xs)) (hm : xs.length = bn) (hb5 : bn ≤ 100000) (hv : ∀ v ∈ xs, -2147483648 ≤ v ∧ v < 2147483648) : Calls Try.prog 55 #[.slice B bn bc] w (MkP (CodeM.uv xs.length ++ ItemM.vb xs) w) := by
  go_enter Try.func55, Try.ntmps55
  go_wp2
  go_ret
  exact ⟨_, rfl, numw_any w.heap.size xs B bn bc _ ((Blk.new w 28 #[.slice B bn bc]).cell 0) (hr.alloc _) hm hb5 hv, (Below.refl _ _).alloc (Nat.le_refl _) _⟩
end Go.Proofs.Ytaadfalklddhcaa
