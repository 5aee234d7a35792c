/-
  The writer of floats.
  Conditions: what is captured lies in memory.
-/
import Derived.Test.YtaadfalklddhcaaZGj
namespace Go.Proofs.Ytaadfalklddhcaa
open Go.RowKit Go.Sort Go.Lib
set_option linter.unusedVariables false
set_option linter.unusedSimpArgs false
def u64s (l : List Nat) : List Value := l.map fun n : Nat => Value.int .u64 (n : Int)
def fb (l : List Nat) : List UInt8 := l.flatMap fun n => CodeM.fx 8 n
theorem fb_length (l : List Nat) : (fb l).length = 8 * l.length := by
  induction l with
  | nil => rfl
  | cons a l ih => unfold fb at *; rw [List.flatMap_cons, List.length_append, ih, CodeM.fx_length, List.length_cons]; omega
theorem fb_snoc (l : List Nat) (v : Nat) : fb (l ++ [v]) = fb l ++ CodeM.fx 8 v := by simp [fb]
theorem fx_step (i x : Nat) : CodeM.fx (i + 1) x = CodeM.fx i x ++ [CodeM.byte (x / 256 ^ i % 256)] := by simp [CodeM.fx, List.range_succ]
theorem row_u64 {w : World} {A : Option Addr} {l : List Nat} (h : Row w A (u64s l)) {k : Nat} {v : Nat} (hv : l[k]? = some v) : ∃ b o, A = some ⟨b, o, none⟩ ∧ w.cell? ⟨b, o + k, none⟩ = some (.int .u64 (v : Int)) := by
  have hu : (u64s l)[k]? = some (.int .u64 (v : Int)) := by unfold u64s; rw [List.getElem?_map, hv]; rfl
  rcases h with h | ⟨b, o, e, hc⟩
  · rw [h] at hu; simp at hu
  · exact ⟨b, o, e, hc _ _ hu⟩
set_option maxRecDepth 100000 in
set_option maxHeartbeats 4000000 in
theorem fltw_any (g : Nat) (xs : List Nat) (B : Option Addr) (bn bc : Nat) (w0 : World) (hc : w0.cell? ⟨g, 0, none⟩ = some (.slice B bn bc)) (hr : Row w0 B (u64s xs)) (hm : xs.length = bn) (hb5 : bn ≤ 100000) (hv : ∀ v ∈ xs, v < 18446744073709551616) :
    WrOk w0 (.func (.func 104) #[] #[.pointer (some ⟨g, 0, none⟩)]) (CodeM.uv xs.length ++ fb xs) := by
  refine ⟨_, _, rfl, fun args w => by go_simp, fun w base A n c l hb hwb hbs hO hn hlm => ?_⟩
  have hcw : w.cell? ⟨g, 0, none⟩ = some (.slice B bn bc) := by rw [hb.cell (World.block_lt_of_cell? w0 _ hc)]; exact hc
  have HR0 := Lib.hid hr
  have HB0 := Lib.hid hb
  have HLM := Lib.hid hlm
  have HM := Lib.hid hm
  have HV := Lib.hid hv
  have hl : l.length ≤ 140737488355000 := by omega
  have HC := Lib.hid (putuv_any A c bn l w hO.row hl (by omega))
  rw [hn] at HC
  have hwk : IntKind.u64.wrap (bn : Int) = (bn : Int) := by rw [IntKind.wrap_u64]; omega
  clear hl hc hr hm hv hO hn hlm hb
  go_enter Try.func104, Try.ntmps104
  go_wp2_with fail
  refine HC.out.mono ?_
  rintro e w2 ⟨A1, n1, c1, rfl, hn1, hO1, hb1⟩
  have hcw2 := cell_below hb1 hcw
  have HI := Lib.hid (And.intro hn1.out (And.intro (hO1.base_ hbs) (hb1.mono hbs)))
  clear HC hcw hwk hn1 hO1 hb1
  go_wp2
  go_loopw [0, 14] (fun b i wr => ∃ (q : Nat) (A2 : Option Addr) (n2 c2 : Nat), i = .int .i64 (q : Int) ∧ q ≤ bn ∧ b = .slice A2 n2 c2 ∧ Hid ((l ++ (CodeM.uv bn ++ fb (xs.take q))).length = n2) ∧ Own wr base A2 c2 (l ++ (CodeM.uv bn ++ fb (xs.take q))) ∧ Below base w wr) (fun _ i _ => bn - (RowKit.intOf i).toNat)
  case atStart => exact ⟨0, A1, n1, c1, rfl, Nat.zero_le _, rfl, Lib.hid (by simpa [fb] using HI.out.1), by simpa [fb] using HI.out.2.1, HI.out.2.2⟩
  case round =>
    obtain ⟨q, A2, n2, c2, rfl, hq, rfl, hn2, hO2, hB2⟩ := hrel
    by_cases hlt : q < bn
    · obtain ⟨x, hx⟩ : ∃ x, xs[q]? = some x := ⟨_, List.getElem?_eq_getElem (by rw [HM.out]; exact hlt)⟩
      have hR := HR0.out.below (HB0.out.trans (hB2.mono hwb))
      obtain ⟨ab, ao, rfl, hcell⟩ := row_u64 hR hx
      have hxr := HV.out x (List.mem_of_getElem? hx)
      have htk : xs.take (q + 1) = xs.take q ++ [x] := by rw [List.take_add_one, hx]; rfl
      have HNX : Hid (l ++ (CodeM.uv bn ++ fb (xs.take (q + 1))) = l ++ (CodeM.uv bn ++ fb (xs.take q)) ++ CodeM.fx 8 x) := Lib.hid (by rw [htk, fb_snoc]; simp only [List.append_assoc])
      have hn2b : n2 ≤ 1000000000000 := by
        have h1 := hn2.out
        have h2 := HLM.out
        rw [HM.out] at h2
        simp only [List.length_append, fb_length, List.length_take] at h1 h2
        omega
      obtain ⟨lp, hlp⟩ : ∃ lp, l ++ (CodeM.uv bn ++ fb (xs.take q)) = lp := ⟨_, rfl⟩
      rw [hlp] at hn2 hO2 HNX
      have hn2' := hn2.out
      have HNN := Lib.hid hn2'
      have HO2 := Lib.hid (And.intro hO2 hB2)
      clear htk hlp hO2 hB2 hR hx hn2 hn2'
      go_wp2
      go_loopw [0, 18] (fun b i wi => ∃ (k : Nat) (A3 : Option Addr) (n3 c3 : Nat), i = .int .i64 (k : Int) ∧ k ≤ 8 ∧ b = .slice A3 n3 c3 ∧ n3 = n2 + k ∧ Own wi base A3 c3 (lp ++ CodeM.fx k x) ∧ Below base w wi) (fun _ i _ => 8 - (RowKit.intOf i).toNat)
      case atStart => exact ⟨0, A2, n2, c2, rfl, by omega, rfl, rfl, by simpa [CodeM.fx] using HO2.out.1, HO2.out.2⟩
      case round =>
        obtain ⟨k, A3, n3, c3, rfl, hk, rfl, rfl, hO3, hB3⟩ := hrel
        by_cases hk8 : k < 8
        · have hw8 : IntKind.i64.wrap (8 * (k : Int)) = ((8 * k : Nat) : Int) := by rw [IntKind.wrap_i64]; omega
          have HO3 := Lib.hid (And.intro hO3 hB3)
          clear hO3 hB3
          have hby : (x : Int) / 2 ^ (8 * k) % 256 = ((CodeM.byte (x / 256 ^ k % 256)).toNat : Int) := by
            have h1 := byte_int x (256 ^ k)
            rw [← h1]
            congr 2
            rw [show (256 : Nat) = 2 ^ 8 from rfl, ← Nat.pow_mul]
            simp
          have HROW := Lib.hid (row_one wr _ _ hby)
          clear hby
          go_wp2_with (at_builtin; refine wpl_app' _ rfl (.tmp 21) (.tmp 27) rfl base A3 c3 (lp ++ CodeM.fx k x) (n2 + k) rfl (by rw [List.length_append, HNN.out, CodeM.fx_length]) (HO3.out.1.alloc _) (some ⟨wr.heap.size, 0, none⟩) 1 [CodeM.byte (x / 256 ^ k % 256)] 1 rfl rfl HROW.out ?_ ?_ ?_)
          · omega
          · have := HO3.out.2.size; first | omega | (simp; omega)
          intro A' c' w' h1 h2 h3
          have hbw : Below base w w' := by
            refine Own.grown_below (HO3.out.1.alloc (.cells #[.int .u8 ((x : Int) / 2 ^ (8 * k) % 256)] 5)) ?_ h2 (HO3.out.2.alloc (by have := HO3.out.2.size; omega) _) (Nat.le_refl _) (by have := HO3.out.2.size; simp; omega)
            rw [List.length_append, HNN.out, CodeM.fx_length]
          rw [← CodeM.fx_succ] at h1
          have HF := Lib.hid (And.intro h1 hbw)
          clear h1 h2 h3 hbw
          go_wp2
          go_roundw
          case rel => exact ⟨k + 1, A', n2 + (k + 1), c', by go_num, by omega, rfl, rfl, HF.out.1, HF.out.2⟩
          case measure => simp [RowKit.intOf]; omega
        · obtain rfl : k = 8 := by omega
          have HF := Lib.hid (And.intro hO3 hB3)
          clear hO3 hB3
          go_wp2
          go_roundw
          case rel => exact ⟨q + 1, A3, n2 + 8, c3, by go_num, by omega, rfl, Lib.hid (by rw [HNX.out, List.length_append, HNN.out, CodeM.fx_length]), by rw [HNX.out]; exact HF.out.1, HF.out.2⟩
          case measure => simp [RowKit.intOf]; omega
    · obtain rfl : bn = q := by omega
      have HX := Lib.hid (And.intro hO2 hB2)
      clear hO2 hB2
      go_wp2
      go_ret
      have htk : xs.take bn = xs := List.take_of_length_le (by rw [HM.out]; exact Nat.le_refl _)
      rw [htk] at hn2 HX
      rw [HM.out]
      exact ⟨A2, n2, c2, rfl, hn2, HX.out.1, HX.out.2⟩
end Go.Proofs.Ytaadfalklddhcaa
