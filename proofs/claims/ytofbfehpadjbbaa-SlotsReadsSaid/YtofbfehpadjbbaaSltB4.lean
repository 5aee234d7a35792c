/-
  bytes.Join of a slotted body's bytes.
  Conditions: their number is bounded.
-/
import Derived.Test.YtofbfehpadjbbaaJoinPlain
import Derived.Test.YtofbfehpadjbbaaSltB3
import Derived.Shelf.Bytes.SlJoin
import Derived.Laws.CopyOwn
namespace Go.Proofs.Ytofbfehpadjbbaa
open Go.RowKit Go.Sort Go.Lib
set_option linter.unusedVariables false
theorem holds_of_row {w : World} {A : Option Addr} {l : List UInt8} (n c : Nat) (hn : l.length = n) (hr : Row w A (bs l)) : Lib.HoldsBytes w (.slice A n c) l := by
  subst hn
  refine ⟨A, c, rfl, fun e => ?_, fun a ha i x hx => ?_⟩
  · subst e; exact row_none hr
  · subst ha
    rcases hr with h | ⟨b, o, e, hc⟩
    · rw [List.map_eq_nil_iff.1 h] at hx; simp at hx
    · injection e with e
      subst e
      rw [Addr.add_lit]
      refine hc i _ ?_
      rw [bs_get?, hx]; rfl
theorem join_flat (ls : List (List UInt8)) : Lib.join ls [] = ls.flatten := by
  cases ls with
  | nil => rfl
  | cons x r => rw [Lib.join_cons]; simp [Lib.joinTail]
theorem row_of_fresh {B : Nat} {w' : World} {v : Value} {l : List UInt8} (h : Lib.FreshBytes B w' v l) : ∃ A c, v = .slice A l.length c ∧ Row w' A (bs l) ∧ ∀ a, A = some a → B ≤ a.block := by
  obtain ⟨g, cap, zs, rfl, hg, hlc, hm, hz, hzr, hzb, hc, hf⟩ := h
  refine ⟨_, cap, rfl, .inr ⟨g, 0, rfl, fun j u hu => ?_⟩, fun a ha => by injection ha with ha; subst ha; exact hg⟩
  rw [bs_get?] at hu
  obtain ⟨x, hx, rfl⟩ := Option.map_eq_some_iff.1 hu
  rw [Nat.zero_add]
  have hi : j < l.length := (List.getElem?_eq_some_iff.1 hx).1
  rw [hc j (by omega)]
  have hu' := hx
  rw [← hzb] at hu'
  unfold Lib.bytesOf at hu'
  rw [List.getElem?_map, List.getElem?_take_of_lt hi] at hu'
  have hzi : zs[j]? = some (zs[j]'(by omega)) := List.getElem?_eq_getElem (by omega)
  rw [hzi] at hu'
  simp only [Option.map_some, Option.some.injEq] at hu'
  have hr := hzr _ (List.getElem_mem (l := zs) (n := j) (by omega))
  have e : zs.getD j 0 = zs[j]'(by omega) := by simp [List.getD, hzi]
  rw [e, ← hu']
  congr 2
  rw [UInt8.toNat_ofNat']
  omega
def JoinPost (l : List UInt8) (w : World) (e : Ending) (w' : World) : Prop := ∃ A n c, e = .returned (.slice A n c) ∧ l.length = n ∧ Row w' A (bs l) ∧ (∀ a, A = some a → w.heap.size ≤ a.block) ∧ Below w.heap.size w w'
theorem join8_any (s : Slt) (A : Option Addr) (nF cA : Nat) (D : Option Addr) (nD cD : Nat) (w : World) (hs : SltAt w A nF cA D nD cD s) (hsum : SltM.sum s.data ≤ 1000000) (hn : nD ≤ 1000) :
    Calls Try.prog 42 #[.slice D nD cD, .slice none 0 0] w (JoinPost s.data.flatten w) := by
  have hld := hs.ld
  have hcd := hs.cd
  rcases Nat.lt_or_ge nD 2 with h2 | h2
  · rcases Nat.lt_or_ge nD 1 with h1 | h1
    · obtain rfl : 0 = nD := by omega
      have e : s.data = [] := List.eq_nil_of_length_eq_zero hld
      refine (Any.bytes_Join_none Try.lays14 D cD (.slice none 0 0) w).mono ?_
      rintro e' w' ⟨rfl, rfl⟩
      rw [e]
      exact ⟨_, 0, 0, rfl, rfl, Row.nil _ _, fun a ha => by injection ha with ha; subst ha; exact Nat.le_refl _, (Below.refl _ _).alloc (Nat.le_refl _) _⟩
    · obtain rfl : 1 = nD := by omega
      obtain ⟨x, e⟩ : ∃ x, s.data = [x] := by
        match h : s.data, hld with
        | [x], _ => exact ⟨x, rfl⟩
      obtain ⟨g, o, B, n, c, rfl, hc, hxn, hxr⟩ := hs.data_get (k := 0) (x := x) (by rw [e]; rfl)
      rw [e]
      simp only [List.flatten_cons, List.flatten_nil, List.append_nil]
      rw [Nat.add_zero] at hc
      cases x with
      | nil =>
        obtain rfl : 0 = n := hxn
        refine (Any.bytes_Join_one_empty Try.lays14 g o cD B c (.slice none 0 0) w hc).mono ?_
        rintro e' w' ⟨rfl, rfl⟩
        exact ⟨none, 0, 0, rfl, rfl, Row.nil _ _, nofun, Below.refl _ _⟩
      | cons u l =>
        obtain ⟨b, o2, e2, hcell⟩ := hxr.resolve_left (by simp [bs])
        subst e2
        subst hxn
        refine (Any.bytes_Join_one Try.lays14 g o cD ⟨b, o2, none⟩ c (u :: l) (.slice none 0 0) w hc (fun i y hy => ?_) (by simp) ?_).mono ?_
        · rw [Addr.add_lit]; exact hcell i _ (by rw [bs_get?, hy]; rfl)
        · have := SltM.sum_get (l := s.data) (k := 0) (x := u :: l) (by rw [e]; rfl); omega
        · rintro e' w' ⟨v, rfl, hf, hb⟩
          obtain ⟨A2, c2, rfl, hr, hbl⟩ := row_of_fresh hf
          exact ⟨A2, _, c2, rfl, rfl, hr, hbl, hb⟩
  · obtain ⟨ps, hps, hrow, hall⟩ := hs.ex
    have hpl : ps.length = nD := by rw [← hld, ← hps, List.length_map]
    obtain ⟨g, o, e, hc⟩ := hrow.resolve_left (by intro h; have h3 := List.map_eq_nil_iff.1 h; rw [h3] at hpl; simp at hpl; omega)
    subst e
    have hP : Lib.PartsAt w ⟨g, o, none⟩ (ps.map Sl.val) s.data := by
      refine ⟨by rw [← hps, List.length_map, List.length_map], fun i v hv => by rw [Addr.add_lit]; exact hc i v hv, fun i v l hv hl => ?_⟩
      rw [List.getElem?_map] at hv
      obtain ⟨p, hp, rfl⟩ := Option.map_eq_some_iff.1 hv
      rw [← hps, List.getElem?_map, hp] at hl
      injection hl with hl
      subst hl
      have := hall p (List.mem_of_getElem? hp)
      exact holds_of_row p.n p.c this.2 this.1
    refine (Any.bytes_Join_many Try.lays14 g o nD cD (ps.map Sl.val) s.data (.slice none 0 0) [] w hld h2 hP hcd (holds_of_row 0 0 rfl (.inl rfl)) (by omega) ?_).mono ?_
    · have : Lib.lens s.data = SltM.sum s.data := rfl
      simpa [this] using (by omega : SltM.sum s.data ≤ 140737488355328)
    · rintro e' w' ⟨v, rfl, hf, hb⟩
      rw [join_flat] at hf
      obtain ⟨A2, c2, rfl, hr, hbl⟩ := row_of_fresh hf
      exact ⟨A2, _, c2, rfl, rfl, hr, hbl, hb⟩
/-- copy into a block, in a region that draws its order: that block alone has changed. -/
theorem step_copyG {ops : Array Oper} {o : Oper} {a : Act} {w : World} {K : Act → World → Prop} {Q : Exit → Act → World → Prop} {E : Prop} (hgd : o.guard = none) (d s : Operand)
    (ho : o.op = .call { callee := .builtin .copy, args := #[d, s], argTypes := #[27, 27] })
    (dp sp : Option Addr) (dLen dCap sLen sCap : Nat) (hd : a.eval d = .slice dp dLen dCap) (hs : a.eval s = .slice sp sLen sCap)
    (g off : Nat) (cur : List Value) (hg : w.heap[g]? = some (.cells cur.toArray 5 (0, 0))) (cs : List Value) (hn : cs.length = Nat.min sLen dLen)
    (hpos : 0 < cs.length → dp = some ⟨g, off, none⟩ ∧ ∃ ad, sp = some ad ∧ ∀ j v, cs[j]? = some v → w.cell? (ad.add j) = some v)
    (hfit : off + cs.length ≤ cur.length) (h1 : ∀ v ∈ cs, v.oneCell' = true)
    (h : ∀ w', Hid (w'.heap[g]? = some (.cells (splice cur off cs).toArray 5 (0, 0))) → w.grownBy w' (some g) → K (a.put o.dst (goInt cs.length)) w') :
    if Region.wanted o (yielded ops a.tmps) = true then Oper.wp Try.prog o a w K Q else E := by
  have hw : Region.wanted o (yielded ops a.tmps) = true := by simp [Region.wanted, hgd]
  have hu := Try.underlying27
  have hsz : (Try.prog.info? 5).map (·.size) = some 1 := by
    obtain ⟨i0, hi0, hz0, hz1, hz2⟩ := info_parts info_u8
    rw [hi0]; simp [hz1]
  rw [if_pos hw]
  by_cases h0 : cs.length = 0
  · obtain rfl : cs = [] := List.eq_nil_of_length_eq_zero h0
    have hrun := run_copy_none (P := Try.prog) w 27 27 o.type 5 dp sp dLen dCap sLen sCap hu hsz (by simpa using hn.symm)
    unfold Oper.wp
    simp [execOp, ho, resolve, invoke, builtin, hd, hs, hrun, Result.andThen]
    exact h w (Lib.hid (by simpa [splice] using hg)) ⟨rfl, rfl, rfl, Nat.le_refl _, fun _ _ _ => rfl⟩
  · obtain ⟨rfl, ad, rfl, hsrc⟩ := hpos (by omega)
    have hrun := run_copy_row (P := Try.prog) w 27 27 o.type 5 g off dLen dCap ad sLen sCap cur.toArray 5 cs hu hsz hg hn hsrc (by simpa using hfit) h1
    unfold Oper.wp
    simp [execOp, ho, resolve, invoke, builtin, hd, hs, hrun, Result.andThen]
    exact h _ (Lib.hid (by simpa [splice] using setRow_heap w g _ _ 5 _ hg)) ⟨rfl, rfl, rfl, by simp, fun k _ hk => setRow_other w g k _ (fun e => hk (by rw [e]))⟩
end Go.Proofs.Ytofbfehpadjbbaa
