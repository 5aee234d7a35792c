/-
  The program's and the document's changes of a slotted body, each by the one function.
  Conditions: the body is small enough.
-/
import Derived.Test.YtofbfehpadjbbaaSltP1
import Derived.Test.YtofbfehpadjbbaaSltC8
namespace Go.Proofs.Ytofbfehpadjbbaa
open Go.RowKit Go.Sort Go.Lib
set_option linter.unusedVariables false
def UP2 (R : Slt × Int) (w : World) (e : Ending) (w' : World) : Prop := ∃ y : Sls, e = .returned (.tuple #[.agg #[.int .u8 (R.1.kind : Int), .int .u32 (R.1.next : Int), .slice y.A y.nF y.cA, .slice y.D y.nD y.cD], .int .i64 R.2]) ∧ SltX w' (fun k => w.heap.size ≤ k ∧ k < w'.heap.size) y R.1 ∧ Below w.heap.size w w'
def UP3 (R : Slt × Int × Int) (w : World) (e : Ending) (w' : World) : Prop := ∃ y : Sls, e = .returned (.tuple #[.agg #[.int .u8 (R.1.kind : Int), .int .u32 (R.1.next : Int), .slice y.A y.nF y.cA, .slice y.D y.nD y.cD], .int .i64 R.2.1, .int .i64 R.2.2]) ∧ SltX w' (fun k => w.heap.size ≤ k ∧ k < w'.heap.size) y R.1 ∧ Below w.heap.size w w'
def UG (R : List UInt8 × Int) (w : World) (e : Ending) (w' : World) : Prop := ∃ B n c, e = .returned (.tuple #[.slice B n c, .int .i64 R.2]) ∧ R.1.length = n ∧ Own w' w.heap.size B c R.1 ∧ Below w.heap.size w w'
def UR (R : List UInt8 × Int) (w : World) (e : Ending) (w' : World) : Prop := ∃ B n c, e = .returned (.tuple #[.slice B n c, .int .i64 R.2]) ∧ R.1.length = n ∧ Row w' B (bs R.1) ∧ Below w.heap.size w w'
section
variable {t : Slt} {p : Int} {b : List UInt8} {w w' : World} {e : Ending}
theorem InsPost.u (h : InsPost t b w e w') : UP3 (SltM.insR t b) w e w' := by
  unfold UP3 SltM.insR
  rcases h with ⟨rfl, hm, hb⟩ | ⟨hm, h⟩
  · rw [if_neg hm.out]; exact ⟨⟨none, 0, 0, none, 0, 0⟩, rfl, SltX.zero _ _, hb⟩
  · rw [if_pos hm.out]
    rcases h with ⟨A', n1, c1, D', n2, c2, rfl, hN, hm2, hb⟩ | ⟨rfl, hm2, hb⟩
    · rw [if_pos hm2.out]; exact ⟨⟨A', n1, c1, D', n2, c2⟩, rfl, hN.x, hb⟩
    · rw [if_neg hm2.out]; exact ⟨⟨none, 0, 0, none, 0, 0⟩, rfl, SltX.zero _ _, hb⟩
theorem PutPost.u (h : PutPost t p b w e w') : UP2 (SltM.putR t p b) w e w' := by
  unfold UP2 SltM.putR
  rcases h with ⟨r, rfl, hr, hb⟩ | ⟨k, rfl, hk, hm, h⟩
  · rcases hr.out with ⟨rfl, hm⟩ | ⟨rfl, hm, hh⟩
    · rw [if_neg hm]; exact ⟨⟨none, 0, 0, none, 0, 0⟩, rfl, SltX.zero _ _, hb⟩
    · rw [if_pos hm, if_neg hh]; exact ⟨⟨none, 0, 0, none, 0, 0⟩, rfl, SltX.zero _ _, hb⟩
  · rw [if_pos hm.out, if_pos ⟨k, rfl, hk.out⟩, Int.toNat_natCast]
    rcases h with ⟨A', n1, c1, D', n2, c2, rfl, hN, hm2, hb⟩ | ⟨rfl, hm2, hb⟩
    · rw [if_pos hm2.out]; exact ⟨⟨A', n1, c1, D', n2, c2⟩, rfl, hN.x, hb⟩
    · rw [if_neg hm2.out]; exact ⟨⟨none, 0, 0, none, 0, 0⟩, rfl, SltX.zero _ _, hb⟩
theorem DelPost.u (h : DelPost t p w e w') : UP2 (SltM.delR t p) w e w' := by
  unfold UP2 SltM.delR
  rcases h with ⟨r, rfl, hr, hb⟩ | ⟨k, hp, hk, hm, A', n1, c1, D', n2, c2, rfl, hN, hb⟩
  · rcases hr.out with ⟨rfl, hm⟩ | ⟨rfl, hm, hh⟩
    · rw [if_neg hm]; exact ⟨⟨none, 0, 0, none, 0, 0⟩, rfl, SltX.zero _ _, hb⟩
    · rw [if_pos hm, if_neg hh]; exact ⟨⟨none, 0, 0, none, 0, 0⟩, rfl, SltX.zero _ _, hb⟩
  · obtain rfl := hp.out
    rw [if_pos hm.out, if_pos ⟨k, rfl, hk.out⟩, Int.toNat_natCast]
    exact ⟨⟨A', n1, c1, D', n2, c2⟩, rfl, hN.x, hb⟩
theorem GetPost.u (h : GetPost t p w e w') : UG (SltM.getR t p) w e w' := by
  unfold UG SltM.getR
  rcases h with ⟨r, rfl, hr, hb⟩ | ⟨k, x, B, n, c, rfl, hp, hk, hx, hn, hm, hO, hb⟩
  · rcases hr.out with ⟨rfl, hm⟩ | ⟨rfl, hm, hh⟩
    · rw [if_neg hm]; exact ⟨none, 0, 0, rfl, rfl, Own.nil_ _ _, hb⟩
    · rw [if_pos hm, if_neg hh]; exact ⟨none, 0, 0, rfl, rfl, Own.nil_ _ _, hb⟩
  · obtain rfl := hp.out
    rw [if_pos hm.out, if_pos ⟨k, rfl, hk.out⟩, Int.toNat_natCast, hx.out]
    exact ⟨B, n, c, rfl, hn.out, hO.out, hb⟩
theorem RGetPost.u (h : RGetPost t p w e w') : UR (SltM.getR t p) w e w' := by
  unfold UR SltM.getR
  rcases h with ⟨r, rfl, hr, hb⟩ | ⟨k, x, B, n, c, rfl, hp, hk, hx, hn, hm, hO, hb⟩
  · rcases hr.out with ⟨rfl, hm⟩ | ⟨rfl, hm, hh⟩
    · rw [if_neg hm]; exact ⟨none, 0, 0, rfl, rfl, Row.nil _ _, hb⟩
    · rw [if_pos hm, if_neg hh]; exact ⟨none, 0, 0, rfl, rfl, Row.nil _ _, hb⟩
  · obtain rfl := hp.out
    rw [if_pos hm.out, if_pos ⟨k, rfl, hk.out⟩, Int.toNat_natCast, hx.out]
    exact ⟨B, n, c, rfl, hn.out, hO.out, hb⟩
end
section
variable {w : World} {P Q : Nat → Prop} {x y : Sls} {t : Slt}
theorem SltX.nums (h : SltX w P x t) (hb : SltM.Bnd t) : x.nF ≤ 3000 ∧ x.nD ≤ 3000 := ⟨by rw [← h.at_.lf]; exact hb.f, by rw [← h.at_.ld]; exact hb.d⟩
theorem SltM.Bnd.each (hb : SltM.Bnd t) : ∀ l ∈ t.data, l.length ≤ 1000000 := fun l hl => by
  obtain ⟨j, hj, e⟩ := List.getElem_of_mem hl
  have := SltM.sum_get (l := t.data) (k := j) (x := l) (by rw [List.getElem?_eq_getElem hj, e])
  have := hb.s
  omega
theorem insX (h : SltX w P x t) (hb : SltM.Bnd t) (B : Option Addr) (nb cb : Nat) (b : List UInt8) (hbr : Row w B (bs b)) (hbn : b.length = nb) (hbl : nb ≤ 1000) :
    Calls Try.prog 15 #[.agg #[.int .u8 (t.kind : Int), .int .u32 (t.next : Int), .slice x.A x.nF x.cA, .slice x.D x.nD x.cD], .slice B nb cb] w (UP3 (SltM.insR t b) w) := by
  obtain ⟨h1, h2⟩ := h.nums hb
  have h3 := hb.s
  exact (insert_any t x.A x.nF x.cA x.D x.nD x.cD B nb cb b w h.at_ (by omega) (by omega) (by omega) hbr hbn (by omega)).mono fun e w' h => h.u
theorem rinsX (h : SltX w P x t) (hb : SltM.Bnd t) (B : Option Addr) (nb cb : Nat) (b : List UInt8) (hbr : Row w B (bs b)) (hbn : b.length = nb) (hbl : nb ≤ 1000) :
    Calls Try.prog 18 #[.agg #[.int .u8 (t.kind : Int), .int .u32 (t.next : Int), .slice x.A x.nF x.cA, .slice x.D x.nD x.cD], .slice B nb cb] w (UP3 (SltM.insR t b) w) := by
  obtain ⟨h1, h2⟩ := h.nums hb
  have h3 := hb.s
  exact (refinsert8_any t x.A x.nF x.cA x.D x.nD x.cD B nb cb b w h.at_ (by omega) (by omega) (by omega) hbr hbn (by omega)).mono fun e w' h => h.u
theorem putX (h : SltX w P x t) (hb : SltM.Bnd t) (p : Int) (B : Option Addr) (nb cb : Nat) (b : List UInt8) (hbr : Row w B (bs b)) (hbn : b.length = nb) (hbl : nb ≤ 1000) :
    Calls Try.prog 12 #[.agg #[.int .u8 (t.kind : Int), .int .u32 (t.next : Int), .slice x.A x.nF x.cA, .slice x.D x.nD x.cD], .int .i64 p, .slice B nb cb] w (UP2 (SltM.putR t p b) w) := by
  obtain ⟨h1, h2⟩ := h.nums hb
  have h3 := hb.s
  exact (put_any t p x.A x.nF x.cA x.D x.nD x.cD B nb cb b w h.at_ (by omega) (by omega) (by omega) hbr hbn (by omega)).mono fun e w' h => h.u
theorem rputX (h : SltX w P x t) (hb : SltM.Bnd t) (p : Int) (B : Option Addr) (nb cb : Nat) (b : List UInt8) (hbr : Row w B (bs b)) (hbn : b.length = nb) (hbl : nb ≤ 1000) :
    Calls Try.prog 19 #[.agg #[.int .u8 (t.kind : Int), .int .u32 (t.next : Int), .slice x.A x.nF x.cA, .slice x.D x.nD x.cD], .int .i64 p, .slice B nb cb] w (UP2 (SltM.putR t p b) w) := by
  obtain ⟨h1, h2⟩ := h.nums hb
  have h3 := hb.s
  exact (refput8_any t p x.A x.nF x.cA x.D x.nD x.cD B nb cb b w h.at_ (by omega) (by omega) (by omega) hbr hbn (by omega)).mono fun e w' h => h.u
theorem delX (h : SltX w P x t) (hb : SltM.Bnd t) (p : Int) :
    Calls Try.prog 16 #[.agg #[.int .u8 (t.kind : Int), .int .u32 (t.next : Int), .slice x.A x.nF x.cA, .slice x.D x.nD x.cD], .int .i64 p] w (UP2 (SltM.delR t p) w) := by
  obtain ⟨h1, h2⟩ := h.nums hb
  have h3 := hb.s
  exact (delete_any t p x.A x.nF x.cA x.D x.nD x.cD w h.at_ (by omega) (by omega) (by omega)).mono fun e w' h => h.u
theorem rdelX (h : SltX w P x t) (hb : SltM.Bnd t) (p : Int) :
    Calls Try.prog 20 #[.agg #[.int .u8 (t.kind : Int), .int .u32 (t.next : Int), .slice x.A x.nF x.cA, .slice x.D x.nD x.cD], .int .i64 p] w (UP2 (SltM.delR t p) w) := by
  obtain ⟨h1, h2⟩ := h.nums hb
  have h3 := hb.s
  exact (refdelete8_any t p x.A x.nF x.cA x.D x.nD x.cD w h.at_ (by omega) (by omega) (by omega)).mono fun e w' h => h.u
theorem getX (h : SltX w P x t) (hb : SltM.Bnd t) (p : Int) :
    Calls Try.prog 11 #[.agg #[.int .u8 (t.kind : Int), .int .u32 (t.next : Int), .slice x.A x.nF x.cA, .slice x.D x.nD x.cD], .int .i64 p] w (UG (SltM.getR t p) w) := by
  obtain ⟨h1, h2⟩ := h.nums hb
  have h3 := hb.s
  exact (get_any t p x.A x.nF x.cA x.D x.nD x.cD w h.at_ (by omega) (by omega) (by omega)).mono fun e w' h => h.u
theorem rgetX (h : SltX w P x t) (hb : SltM.Bnd t) (p : Int) :
    Calls Try.prog 21 #[.agg #[.int .u8 (t.kind : Int), .int .u32 (t.next : Int), .slice x.A x.nF x.cA, .slice x.D x.nD x.cD], .int .i64 p] w (UR (SltM.getR t p) w) := by
  obtain ⟨h1, h2⟩ := h.nums hb
  have h3 := hb.s
  exact (refget8_any t p x.A x.nF x.cA x.D x.nD x.cD w h.at_ (by omega) (by omega) (by omega)).mono fun e w' h => h.u
theorem copyX (h : SltAt w x.A x.nF x.cA x.D x.nD x.cD t) (hb : SltM.Bnd t) :
    Calls Try.prog 17 #[.agg #[.int .u8 (t.kind : Int), .int .u32 (t.next : Int), .slice x.A x.nF x.cA, .slice x.D x.nD x.cD]] w fun e w' => ∃ y : Sls, e = .returned (.agg #[.int .u8 (t.kind : Int), .int .u32 (t.next : Int), .slice y.A y.nF y.cA, .slice y.D y.nD y.cD]) ∧ SltX w' (fun k => w.heap.size ≤ k ∧ k < w'.heap.size) y t ∧ Below w.heap.size w w' := by
  have h1 := hb.f
  have h2 := hb.d
  rw [h.lf] at h1
  rw [h.ld] at h2
  exact (refcopy8_any t x.A x.nF x.cA x.D x.nD x.cD w h (by omega) (by omega) hb.each).mono fun e w' ⟨A', cA', D', cD', he, hN, hbl⟩ => ⟨⟨A', x.nF, cA', D', x.nD, cD'⟩, he, hN.x, hbl⟩
theorem sameX (h : SltX w P x t) (h2 : SltX w Q y t) (hb : SltM.Bnd t) :
    Calls Try.prog 14 #[.agg #[.int .u8 (t.kind : Int), .int .u32 (t.next : Int), .slice x.A x.nF x.cA, .slice x.D x.nD x.cD], .agg #[.int .u8 (t.kind : Int), .int .u32 (t.next : Int), .slice y.A y.nF y.cA, .slice y.D y.nD y.cD]] w fun e w' => e = .returned (.bool true) ∧ Below w.heap.size w w' := by
  obtain ⟨h3, h4⟩ := h.nums hb
  obtain ⟨h5, h6⟩ := h2.nums hb
  exact (same_any t t x.A x.nF x.cA x.D x.nD x.cD y.A y.nF y.cA y.D y.nD y.cD w h.at_ h2.at_ (by omega) (by omega)).mono fun e w' ⟨r, he, hr, hbl⟩ => by
    obtain rfl := hr.out.2 rfl
    exact ⟨he, hbl⟩
end
end Go.Proofs.Ytofbfehpadjbbaa
