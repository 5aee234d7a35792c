/-
  The writer of numbers.
  Conditions: what is captured lies in memory.
-/
import Derived.Test.YtaadfalklddhcaaStmW2
import Derived.Test.YtaadfalklddhcaaItemW2
namespace Go.Proofs.Ytaadfalklddhcaa
open Go.RowKit Go.Sort Go.Lib
set_option linter.unusedVariables false
set_option linter.unusedSimpArgs false
set_option maxRecDepth 100000 in
set_option maxHeartbeats 4000000 in
theorem numw_any (g : Nat) (xs : List Int) (B : Option Addr) (bn bc : Nat) (w0 : World) (hc : w0.cell? ⟨g, 0, none⟩ = some (.slice B bn bc)) (hr : Row w0 B (i32s xs)) (hm : xs.length = bn) (hb5 : bn ≤ 100000) (hv : ∀ v ∈ xs, -2147483648 ≤ v ∧ v < 2147483648) :
    WrOk w0 (.func (.func 102) #[] #[.pointer (some ⟨g, 0, none⟩)]) (CodeM.uv xs.length ++ ItemM.vb xs) := by
  refine ⟨_, _, rfl, fun args w => by go_simp, fun w base A n c l hb hwb hbs hO hn hlm => ?_⟩
  have hcw : w.cell? ⟨g, 0, none⟩ = some (.slice B bn bc) := by rw [hb.cell (World.block_lt_of_cell? w0 _ hc)]; exact hc
  have HR0 := Lib.hid hr
  have HB0 := Lib.hid hb
  have HLM := Lib.hid hlm
  have HM := Lib.hid hm
  have HV := Lib.hid hv
  have hl : l.length ≤ 140737488355000 := by omega
  have hl2 : l.length ≤ 1000000000000 := by omega
  have HC := Lib.hid (putuv_any A c bn l w hO.row hl (by omega))
  rw [hn] at HC hl2
  have HN := Lib.hid hn
  have hwk : IntKind.u64.wrap (bn : Int) = (bn : Int) := by rw [IntKind.wrap_u64]; omega
  have hg0 := World.block_lt_of_cell? w _ hcw
  clear hl hc hr hm hv hO hn hlm
  go_enter Try.func102, Try.ntmps102
  go_wp2_with fail
  refine HC.out.mono ?_
  rintro e w2 ⟨A1, n1, c1, rfl, hn1, hO1, hb1⟩
  have hcw2 := cell_below hb1 hcw
  have HI := Lib.hid (And.intro hn1.out (And.intro (hO1.base_ hbs) (hb1.mono hbs)))
  have hsz := hb1.size
  have HBS := Lib.hid (Nat.le_trans hbs hsz)
  clear HC hcw hwk hn1 hO1 hb1 hsz hb
  go_wp2
  go_loopw [0, 13] (fun b i wr => ∃ (q : Nat) (A2 : Option Addr) (n2 c2 : Nat), i = .int .i64 (q : Int) ∧ q ≤ bn ∧ b = .slice A2 n2 c2 ∧ Hid ((l ++ CodeM.uv bn ++ ItemM.vb (xs.take q)).length = n2) ∧ Own wr base A2 c2 (l ++ CodeM.uv bn ++ ItemM.vb (xs.take q)) ∧ Below base w wr) (fun _ i _ => bn - (RowKit.intOf i).toNat)
  case atStart => exact ⟨0, A1, n1, c1, rfl, Nat.zero_le _, rfl, Lib.hid (by simpa [ItemM.vb] using HI.out.1), by simpa [ItemM.vb] using HI.out.2.1, HI.out.2.2⟩
  case round =>
    obtain ⟨q, A2, n2, c2, rfl, hq, rfl, hn2, hO2, hB2⟩ := hrel
    by_cases hlt : q < bn
    · obtain ⟨x, hx⟩ : ∃ x, xs[q]? = some x := ⟨_, List.getElem?_eq_getElem (by rw [HM.out]; exact hlt)⟩
      have hR := HR0.out.below (HB0.out.trans (hB2.mono hwb))
      obtain ⟨ab, ao, rfl, hcell⟩ := row_i32 hR hx
      have hxr := HV.out x (List.mem_of_getElem? hx)
      obtain ⟨m, hmx⟩ : ∃ m, ItemM.u32 x = m := ⟨_, rfl⟩
      have hmi : (m : Int) = x % 4294967296 := by rw [← hmx]; unfold ItemM.u32; omega
      have hm32 : m < 4294967296 := by rw [← hmx]; exact ItemM.u32_lt x
      have e0 : x % 256 = ((CodeM.byte (m / 256 ^ 0 % 256)).toNat : Int) := by rw [← byte_low m]; omega
      have e1 : x / 256 % 256 = ((CodeM.byte (m / 256 ^ 1 % 256)).toNat : Int) := by rw [show (256 : Nat) ^ 1 = 256 from rfl, ← byte_int m 256]; omega
      have e2 : x / 65536 % 256 = ((CodeM.byte (m / 256 ^ 2 % 256)).toNat : Int) := by rw [show (256 : Nat) ^ 2 = 65536 from rfl, ← byte_int m 65536]; omega
      have e3 : x / 16777216 % 256 = ((CodeM.byte (m / 256 ^ 3 % 256)).toNat : Int) := by rw [show (256 : Nat) ^ 3 = 16777216 from rfl, ← byte_int m 16777216]; omega
      have HROW := Lib.hid (row_4 wr (x % 256) (x / 256 % 256) (x / 65536 % 256) (x / 16777216 % 256) m e0 e1 e2 e3)
      have htk : xs.take (q + 1) = xs.take q ++ [x] := by rw [List.take_add_one, hx]; rfl
      have hnext : l ++ CodeM.uv bn ++ ItemM.vb (xs.take (q + 1)) = l ++ CodeM.uv bn ++ ItemM.vb (xs.take q) ++ CodeM.fx 4 m := by rw [htk, ItemM.vb_snoc, hmx, List.append_assoc _ _ (CodeM.fx 4 m)]
      have hn2b : n2 ≤ 1000000000000 := by
        have h1 := hn2.out
        have h2 := HLM.out
        rw [HM.out] at h2
        simp only [List.length_append, ItemM.vb_length, List.length_take] at h1 h2
        omega
      have HNX := Lib.hid hnext
      have HO2 := Lib.hid (And.intro hO2 hB2)
      have hsz : base ≤ wr.heap.size := Nat.le_trans hbs hB2.size
      clear e0 e1 e2 e3 hmi hm32 hmx htk hnext hO2 hB2 hR hx
      go_wp2_with (at_builtin; refine wpl_app' _ rfl (.tmp 17) (.tmp 29) rfl base A2 c2 (l ++ CodeM.uv bn ++ ItemM.vb (xs.take q)) n2 rfl hn2.out (HO2.out.1.alloc _) (some ⟨wr.heap.size, 0, none⟩) 4 (CodeM.fx 4 m) 4 rfl (CodeM.fx_length _ _) HROW.out ?_ ?_ ?_)
      · omega
      · first | omega | (simp; omega)
      intro A' c' w' h1 h2 h3
      have hbw : Below base w w' := by
        refine Own.grown_below (HO2.out.1.alloc (.cells #[.int .u8 (x % 256), .int .u8 (x / 256 % 256), .int .u8 (x / 65536 % 256), .int .u8 (x / 16777216 % 256)] 5)) ?_ h2 (HO2.out.2.alloc hsz _) (Nat.le_refl _) (by simp; omega)
        rw [hn2.out]
      have HF := Lib.hid (And.intro h1 hbw)
      clear h1 h2 h3 hbw hcell
      go_wp2
      go_roundw
      case rel => exact ⟨q + 1, A', n2 + 4, c', by go_num, by omega, rfl, Lib.hid (by rw [HNX.out, List.length_append, hn2.out, CodeM.fx_length]), by rw [HNX.out]; simpa only [List.append_assoc] using HF.out.1, HF.out.2⟩
      case measure => simp [RowKit.intOf]; omega
    · obtain rfl : bn = q := by omega
      have HX := Lib.hid (And.intro hO2 hB2)
      clear hO2 hB2
      go_wp2
      go_ret
      have htk : xs.take bn = xs := List.take_of_length_le (by rw [HM.out]; exact Nat.le_refl _)
      rw [htk] at hn2 HX
      rw [HM.out]
      exact ⟨A2, n2, c2, rfl, Lib.hid (by rw [← List.append_assoc]; exact hn2.out), by rw [← List.append_assoc]; exact HX.out.1, HX.out.2⟩
end Go.Proofs.Ytaadfalklddhcaa
