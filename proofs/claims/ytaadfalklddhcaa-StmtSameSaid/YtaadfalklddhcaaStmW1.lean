/-
  Writers: closures that put something behind bytes; one behind the other.
  Conditions: what is captured lies in memory.
-/
import Derived.Test.YtaadfalklddhcaaMem2
import Derived.Test.YtaadfalklddhcaaCodeW2
namespace Go.Proofs.Ytaadfalklddhcaa
open Go.RowKit Go.Sort Go.Lib
set_option linter.unusedVariables false
set_option linter.unusedSimpArgs false
/-- Bytes of the call's own, with more behind them. -/
def PutP (base : Nat) (lm : List UInt8) (w : World) (e : Ending) (w' : World) : Prop := ∃ A' n' c', e = .returned (.slice A' n' c') ∧ Hid (lm.length = n') ∧ Own w' base A' c' lm ∧ Below base w w'
/-- A writer of the bytes m. -/
def WrOk (w0 : World) (v : Value) (m : List UInt8) : Prop := ∃ (fn : FuncId) (caps : Array Value), v = .func (.func fn) #[] caps ∧ (∀ (args : Array Value) (w : World), (callFunc fn args).run Try.prog w = .ok (.enter fn args) w) ∧
  ∀ (w : World) (base : Nat) (A : Option Addr) (n c : Nat) (l : List UInt8), Below w0.heap.size w0 w → w0.heap.size ≤ base → base ≤ w.heap.size → Own w base A c l → l.length = n → l.length + m.length ≤ 1000000000000 →
    Calls Try.prog fn (#[.slice A n c] ++ caps) w (PutP base (l ++ m) w)
theorem WrOk.below {w0 w1 : World} {v : Value} {m : List UInt8} (h : WrOk w0 v m) (hb : Below w0.heap.size w0 w1) : WrOk w1 v m := by
  obtain ⟨fn, caps, rfl, hp, hc⟩ := h
  exact ⟨fn, caps, rfl, hp, fun w base A n c l h1 h2 h3 h4 h5 h6 => hc w base A n c l (hb.trans (h1.mono hb.size)) (Nat.le_trans hb.size h2) h3 h4 h5 h6⟩
set_option maxRecDepth 100000 in
theorem u8w_any (g : Nat) (k : Int) (u : UInt8) (w0 : World) (hc : w0.cell? ⟨g, 0, none⟩ = some (.int .i64 k)) (hk : IntKind.u8.wrap k = (u.toNat : Int)) : WrOk w0 (.func (.func 98) #[] #[.pointer (some ⟨g, 0, none⟩)]) [u] := by
  refine ⟨_, _, rfl, fun args w => by go_simp, fun w base A n c l hb hwb hbs hO hn hlm => ?_⟩
  have hcw : w.cell? ⟨g, 0, none⟩ = some (.int .i64 k) := by rw [hb.cell (World.block_lt_of_cell? w0 _ hc)]; exact hc
  have hg := World.block_lt_of_cell? w _ hcw
  go_enter Try.func98, Try.ntmps98
  go_wp2_with (at_builtin; refine wpl_app' _ rfl (.tmp 4) (.tmp 7) rfl base A c l n rfl hn (hO.alloc _) (some ⟨w.heap.size, 0, none⟩) 1 [u] 1 rfl rfl (row_one w _ u rfl) ?_ ?_ ?_)
  · first | omega | (simp at hlm; omega)
  · first | omega | (simp; omega)
  intro A' c' w' h1 h2 h3
  go_wp2
  go_ret
  refine ⟨A', n + 1, c', rfl, Lib.hid (by simp [hn]), h1, ?_⟩
  refine Own.grown_below (hO.alloc (.cells #[.int .u8 (u.toNat : Int)] 5)) (by rw [hn]) h2 ((Below.refl base w).alloc hbs _) (Nat.le_refl _) (by simp; omega)
set_option maxRecDepth 100000 in
set_option maxHeartbeats 4000000 in
/-- One thing behind the other. -/
theorem all_any (A : Option Addr) (n c : Nat) (vs : List Value) (ms : List (List UInt8)) (w : World) (hr : Row w A vs) (hn : vs.length = n) (hm : ms.length = n) (hn6 : n ≤ 1000)
    (hw : ∀ (i : Nat) (v : Value) (m : List UInt8), vs[i]? = some v → ms[i]? = some m → WrOk w v m) (hlen : ms.flatten.length ≤ 1000000000000) :
    Calls Try.prog 58 #[.slice A n c] w (PutP w.heap.size ms.flatten w) := by
  have HW := Lib.hid hw
  have HM := Lib.hid hm
  have HN := Lib.hid hn
  have HR := Lib.hid hr
  have HL := Lib.hid hlen
  clear hw hm hn hr hlen
  go_enter Try.func58, Try.ntmps58
  go_wp2
  go_loopw [3, 8] (fun b i wr => ∃ (q : Nat) (B : Option Addr) (bn bc : Nat), i = .int .i64 (q : Int) ∧ q ≤ n ∧ b = .slice B bn bc ∧ Hid ((ms.take q).flatten.length = bn) ∧ Own wr w.heap.size B bc (ms.take q).flatten ∧ Below w.heap.size w wr) (fun _ i _ => n - (RowKit.intOf i).toNat)
  case atStart => exact ⟨0, none, 0, 0, rfl, Nat.zero_le _, rfl, Lib.hid rfl, Own.nil_ _ _, Below.refl _ _⟩
  case round =>
    obtain ⟨q, B, bn, bc, rfl, hq, rfl, hbn, hO, hB⟩ := hrel
    by_cases hlt : q < n
    · obtain ⟨v, hv⟩ : ∃ v, vs[q]? = some v := ⟨_, List.getElem?_eq_getElem (by rw [HN.out]; exact hlt)⟩
      obtain ⟨m, hm⟩ : ∃ m, ms[q]? = some m := ⟨_, List.getElem?_eq_getElem (by rw [HM.out]; exact hlt)⟩
      obtain ⟨fn, caps, rfl, hp, hc⟩ := HW.out q v m hv hm
      have HP := Lib.hid hp
      clear hp
      have hcell : ∃ b o, A = some ⟨b, o, none⟩ ∧ wr.cell? ⟨b, o + q, none⟩ = some (.func (.func fn) #[] caps) := by
        rcases HR.out.below hB with h | ⟨b, o, e, h⟩
        · rw [h] at hv; simp at hv
        · exact ⟨b, o, e, h _ _ hv⟩
      obtain ⟨ab, ao, rfl, hcell⟩ := hcell
      have htk : (ms.take (q + 1)).flatten = (ms.take q).flatten ++ m := by
        rw [List.take_add_one, hm, List.flatten_append]; simp
      have hle : (ms.take q).flatten.length + m.length ≤ 1000000000000 := by
        have h1 := HL.out
        have h2 : ms.flatten.length = (ms.take (q + 1)).flatten.length + (ms.drop (q + 1)).flatten.length := by
          rw [← List.length_append, ← List.flatten_append, List.take_append_drop]
        rw [htk, List.length_append] at h2
        omega
      have HC := Lib.hid (hc wr w.heap.size B bn bc (ms.take q).flatten hB (Nat.le_refl _) hB.size hO hbn.out hle)
      have HTK := Lib.hid htk
      clear hc hv hm htk hle hO
      go_wp2_with fail
      rw [HP.out, Oper.upon_enter]
      refine HC.out.mono ?_
      rintro e w2 ⟨A', n', c', rfl, hn', hO', hb'⟩
      have HO := Lib.hid (And.intro hn'.out (And.intro hO' (hB.trans hb')))
      clear hB hb' hO' hn' hbn HC HP
      go_wp2
      go_roundw
      case rel => exact ⟨q + 1, A', n', c', by go_num, by omega, rfl, Lib.hid (by rw [HTK.out]; exact HO.out.1), by rw [HTK.out]; exact HO.out.2.1, HO.out.2.2⟩
      case measure => simp [RowKit.intOf]; omega
    · obtain rfl : n = q := by omega
      have HX := Lib.hid (And.intro hO hB)
      clear hO hB
      go_wp2
      go_ret
      have htk : ms.take n = ms := List.take_of_length_le (by rw [HM.out]; exact Nat.le_refl _)
      rw [htk] at hbn HX
      exact ⟨B, bn, bc, rfl, hbn, HX.out.1, HX.out.2⟩
end Go.Proofs.Ytaadfalklddhcaa
