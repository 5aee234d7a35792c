/-
  What of a chain is wanted, by the program's word (snap.Wanted): the walk.
  Conditions: the heads, the looks and their stamps lie in memory; at most 1000 heads.
-/
import Derived.Test.YtplknfbdonenmaaWanW3
import Derived.Test.YtplknfbdonenmaaWanW7
import Derived.Laws.EntriesVeiled
namespace Go.Proofs.Ytplknfbdonenmaa
open Go.RowKit Go.Shelf
set_option linter.unusedVariables false
set_option linter.unusedSimpArgs false
attribute [local go_sem] Oper.semAt_some
def WanP (l : List Bool) (w : World) (e : Ending) (w' : World) : Prop := ∃ g, e = .returned (.slice (some ⟨g, 0, none⟩) l.length l.length) ∧ Row w' (some ⟨g, 0, none⟩) (l.map Value.bool) ∧ Below w.heap.size w w'
set_option maxRecDepth 100000 in
set_option maxHeartbeats 16000000 in
theorem wanted_any (chain : List Hed) (A : Option Addr) (c : Nat) (A2 : Option Addr) (c2 : Nat) (ks : List Lkv) (w : World) (hr : Row w A (chain.flatMap Hed.cells)) (hl : chain.length ≤ 1000) (hL : Lks w A2 ks) :
    Calls Try.prog 6 #[.slice A chain.length c, .slice A2 ks.length c2] w (WanP (WanM.wanted (lks ks) chain) w) := by
  have HR := Lib.hid hr
  have HLK := Lib.hid hL
  obtain ⟨N, hN⟩ : ∃ N, chain.length = N := ⟨_, rfl⟩
  have HN := Lib.hid hN
  obtain ⟨M, hM⟩ : ∃ M, ks.length = M := ⟨_, rfl⟩
  have HM := Lib.hid hM
  rw [hN] at hl
  simp only [hN, hM]
  have hml : M ≤ 1000 := by rw [← hM]; exact hL.le
  clear hr hL hN hM
  refine (callsIn_wide (n := 5)).1 ?_
  refine callsIn_of_wp_marks Try.func6 rfl trivial ?_ rfl
  refine wpIn_wide.2 ?_
  simp only [Try.ntmps6, List.size_toArray, List.length_cons, List.length_nil, Nat.reduceAdd, Nat.reduceSub, Array.replicate_succ, Array.replicate_zero, List.push_toArray, List.append_toArray, List.nil_append, List.cons_append]
  have hmk := fun w' : World => run_mkb w' N (by omega)
  have U3 := ((Blk.new w 23 #[.slice A2 M c2]).alloc (.cells (bls (List.replicate N false)) 4)).alloc (.cells #[.slice (some ⟨w.heap.size + 1, 0, none⟩) N N] 26)
  have Us := (Blk.new (w.alloc (.cells #[.slice A2 M c2] 23)) 4 (bls (List.replicate N false))).alloc (.cells #[.slice (some ⟨w.heap.size + 1, 0, none⟩) N N] 26)
  have U5 := Blk.new ((w.alloc (.cells #[.slice A2 M c2] 23)).alloc (.cells (bls (List.replicate N false)) 4)) 26 #[.slice (some ⟨w.heap.size + 1, 0, none⟩) N N]
  have b0 : Below w.heap.size w (((w.alloc (.cells #[.slice A2 M c2] 23)).alloc (.cells (bls (List.replicate N false)) 4)).alloc (.cells #[.slice (some ⟨w.heap.size + 1, 0, none⟩) N N] 26)) := (((Below.refl _ _).alloc (Nat.le_refl _) _).alloc (by simp) _).alloc (by simp; omega) _
  have q1 : (w.alloc (.cells #[.slice A2 M c2] 23)).heap.size = w.heap.size + 1 := by simp
  have q2 : ((w.alloc (.cells #[.slice A2 M c2] 23)).alloc (.cells (bls (List.replicate N false)) 4)).heap.size = w.heap.size + 2 := by simp
  rw [q1] at Us
  rw [q2] at U5
  clear q1 q2
  go_upto_region 2 with fail
  generalize (((w.alloc (.cells #[.slice A2 M c2] 23)).alloc (.cells (bls (List.replicate N false)) 4)).alloc (.cells #[.slice (some ⟨w.heap.size + 1, 0, none⟩) N N] 26)) = V0 at *
  obtain ⟨g, hg⟩ : ∃ g, w.heap.size = g := ⟨_, rfl⟩
  have HG := Lib.hid hg
  rw [hg] at U3 Us U5 b0
  simp only [hg]
  have H0 : Hid (Blk V0 g 23 #[.slice A2 M c2] ∧ Blk V0 (g + 2) 26 #[.slice (some ⟨g + 1, 0, none⟩) N N] ∧ Blk V0 (g + 1) 4 (bls (List.replicate N false)) ∧ Below g w V0) := Lib.hid ⟨U3, U5, Us, b0⟩
  have d0 := U3.cell 0
  simp only [List.getElem?_toArray, List.getElem?_cons_zero] at d0
  clear hg U3 Us U5 b0 hmk
  go_wp2
  clear d0
  go_loopw [19] (fun i wr => ∃ k : Nat, i = .int .i64 (k : Int) ∧ k ≤ M ∧ Hid (Blk wr g 23 #[.slice A2 M c2] ∧ Blk wr (g + 2) 26 #[.slice (some ⟨g + 1, 0, none⟩) N N] ∧ Blk wr (g + 1) 4 (bls (WanM.snl ((lks ks).take k) chain)) ∧ Below g w wr)) (fun i _ => M - (intOf i).toNat)
  case atStart => exact ⟨0, rfl, Nat.zero_le _, Lib.hid ⟨H0.out.1, H0.out.2.1, by rw [List.take_zero, WanM.snl_nil, HN.out]; exact H0.out.2.2.1, H0.out.2.2.2⟩⟩
  case round =>
    obtain ⟨k, rfl, hk, HI⟩ := hrel
    clear H0
    by_cases hlt : k < M
    · obtain ⟨s, hs⟩ : ∃ s, ks[k]? = some s := ⟨_, List.getElem?_eq_getElem (by rw [HM.out]; exact hlt)⟩
      have hLK := HLK.out.below (by rw [HG.out]; exact HI.out.2.2.2)
      obtain ⟨b, o, hA2, e1, e2, e3, e4⟩ := row_lkv hLK.row hs
      subst hA2
      have hsm := List.mem_of_getElem? hs
      have hba : Below wr.heap.size wr (wr.alloc (.cells #[.int .u64 (s.k.self : Int), .int .u64 (s.k.start : Int), .int .u64 (s.k.base : Int), .slice s.A s.k.done.length s.c] 31)) := (Below.refl _ _).alloc (Nat.le_refl _) _
      have HC := sees_any s.k s.A A s.c c chain (wr.alloc (.cells #[.int .u64 (s.k.self : Int), .int .u64 (s.k.start : Int), .int .u64 (s.k.base : Int), .slice s.A s.k.done.length s.c] 31)) ((HR.out.below (by rw [HG.out]; exact HI.out.2.2.2)).below hba) (by rw [HN.out]; omega) ((hLK.st s hsm).below hba) (hLK.len s hsm)
      rw [HN.out] at HC
      have HC := Lib.hid HC
      have HBA := Lib.hid hba
      have HSK : Hid ((lks ks).take (k + 1) = (lks ks).take k ++ [s.k]) := Lib.hid (WanM.take_snoc (by unfold lks; rw [List.getElem?_map, hs]; rfl))
      have hrg := ix_range (seesB s.k) chain
      have HRG : Hid (-1 ≤ sees s.k chain ∧ sees s.k chain < N) := Lib.hid (by rw [← HN.out]; exact hrg)
      clear hLK hsm hba hs hrg
      go_wp2_with fail
      refine HC.out.mono ?_
      rintro e w2 ⟨rfl, hb⟩
      have HI2 : Hid (Blk w2 g 23 #[.slice (some ⟨b, o, none⟩) M c2] ∧ Blk w2 (g + 2) 26 #[.slice (some ⟨g + 1, 0, none⟩) N N] ∧ Blk w2 (g + 1) 4 (bls (WanM.snl ((lks ks).take k) chain)) ∧ Below g w w2) := Lib.hid (by
        have hbb := below_join HBA.out hb
        exact ⟨HI.out.1.below hbb HI.out.1.lt, HI.out.2.1.below hbb HI.out.2.1.lt, HI.out.2.2.1.below hbb HI.out.2.2.1.lt, below_step HI.out.2.2.2 hbb (Nat.le_of_eq HG.out.symm)⟩)
      obtain ⟨z, hz⟩ : ∃ z, sees s.k chain = z := ⟨_, rfl⟩
      rw [hz] at HRG
      simp only [hz]
      have HZ := Lib.hid hz
      clear hb HC HBA HI e1 e2 e3 e4 hz
      have hz1 := HRG.out
      by_cases hneg : z < 0
      · have HI3 : Hid (Blk w2 g 23 #[.slice (some ⟨b, o, none⟩) M c2] ∧ Blk w2 (g + 2) 26 #[.slice (some ⟨g + 1, 0, none⟩) N N] ∧ Blk w2 (g + 1) 4 (bls (WanM.snl ((lks ks).take (k + 1)) chain)) ∧ Below g w w2) := Lib.hid ⟨HI2.out.1, HI2.out.2.1, by rw [HSK.out, WanM.snl_miss (by rw [HZ.out]; exact hneg)]; exact HI2.out.2.2.1, HI2.out.2.2.2⟩
        clear HI2
        go_wp2
        go_roundw
        case rel => exact ⟨k + 1, by go_num, by omega, HI3⟩
        case measure => simp [intOf]; omega
      · obtain ⟨q, hq⟩ : ∃ q : Nat, z = (q : Int) := ⟨z.toNat, by omega⟩
        subst hq
        have hqN : q < N := by omega
        have d5 := HI2.out.2.1.cell 0
        simp only [List.getElem?_toArray, List.getElem?_cons_zero] at d5
        obtain ⟨v, hv⟩ : ∃ v, (WanM.snl ((lks ks).take k) chain)[q]? = some v := ⟨_, List.getElem?_eq_getElem (by rw [WanM.snl_len, HN.out]; exact hqN)⟩
        have cs := HI2.out.2.2.1.cell q
        rw [bls_get hv] at cs
        have fs := HI2.out.2.2.1.frozen q
        have gs := grownBy_setC w2 (g + 1) q (.bool true)
        have HI3 : Hid (Blk (w2.setCell ⟨g + 1, q, none⟩ (.bool true)) g 23 #[.slice (some ⟨b, o, none⟩) M c2] ∧ Blk (w2.setCell ⟨g + 1, q, none⟩ (.bool true)) (g + 2) 26 #[.slice (some ⟨g + 1, 0, none⟩) N N] ∧ Blk (w2.setCell ⟨g + 1, q, none⟩ (.bool true)) (g + 1) 4 (bls (WanM.snl ((lks ks).take (k + 1)) chain)) ∧ Below g w (w2.setCell ⟨g + 1, q, none⟩ (.bool true))) := Lib.hid ⟨HI2.out.1.grown gs (by simp), HI2.out.2.1.grown gs (by simp), by rw [HSK.out, WanM.snl_hit HZ.out, ← bls_set]; exact HI2.out.2.2.1.set_ q _, below_set0 HI2.out.2.2.2 (Nat.le_of_lt HI2.out.1.lt) (by omega) _ _⟩
        clear HI2 hv gs
        go_wp2
        go_roundw
        case rel => exact ⟨k + 1, by go_num, by omega, HI3⟩
        case measure => simp [intOf]; omega
    · obtain rfl : k = M := by omega
      have htk : (lks ks).take k = lks ks := List.take_of_length_le (by unfold lks; rw [List.length_map, HM.out]; exact Nat.le_refl _)
      rw [htk] at HI
      obtain ⟨V1, hV1⟩ : ∃ V, V = wr := ⟨_, rfl⟩
      clear htk
      go_upto_region 9 with fail
      subst hV1
      go_upto_region 10 with fail
      have hK9 := Blk.new V1 39 #[.func (.func 9) #[] #[.pointer (some ⟨g, 0, none⟩)]]
      have ba : Below V1.heap.size V1 (V1.alloc (.cells #[.func (.func 9) #[] #[.pointer (some ⟨g, 0, none⟩)]] 39)) := (Below.refl _ _).alloc (Nat.le_refl _) _
      have sa : (V1.alloc (.cells #[.func (.func 9) #[] #[.pointer (some ⟨g, 0, none⟩)]] 39)).heap.size = V1.heap.size + 1 := by simp
      have hIa : Blk (V1.alloc (.cells #[.func (.func 9) #[] #[.pointer (some ⟨g, 0, none⟩)]] 39)) g 23 #[.slice A2 k c2] ∧ Blk (V1.alloc (.cells #[.func (.func 9) #[] #[.pointer (some ⟨g, 0, none⟩)]] 39)) (g + 2) 26 #[.slice (some ⟨g + 1, 0, none⟩) N N] ∧ Blk (V1.alloc (.cells #[.func (.func 9) #[] #[.pointer (some ⟨g, 0, none⟩)]] 39)) (g + 1) 4 (bls (WanM.snl (lks ks) chain)) ∧ Below g w (V1.alloc (.cells #[.func (.func 9) #[] #[.pointer (some ⟨g, 0, none⟩)]] 39)) := ⟨HI.out.1.below ba HI.out.1.lt, HI.out.2.1.below ba HI.out.2.1.lt, HI.out.2.2.1.below ba HI.out.2.2.1.lt, HI.out.2.2.2.trans (ba.mono (Nat.le_of_lt HI.out.1.lt))⟩
      have hlt2 : g + 2 < V1.heap.size := HI.out.2.1.lt
      clear ba HI
      generalize V1.alloc (.cells #[.func (.func 9) #[] #[.pointer (some ⟨g, 0, none⟩)]] 39) = Wa at *
      generalize V1.heap.size = G1 at *
      have HLT := Lib.hid hlt2
      have HIa := Lib.hid (And.intro hK9 (And.intro hIa sa))
      clear hK9 hIa sa hlt2
      have hmk := fun w' : World => run_mkb w' N (by omega)
      go_upto_region 11 with fail
      clear hmk
      have hKo := (Blk.new Wa 4 (bls (List.replicate N false))).alloc (.cells #[.slice (some ⟨Wa.heap.size, 0, none⟩) N N] 26)
      have hK10 := Blk.new (Wa.alloc (.cells (bls (List.replicate N false)) 4)) 26 #[.slice (some ⟨Wa.heap.size, 0, none⟩) N N]
      have bb : Below Wa.heap.size Wa ((Wa.alloc (.cells (bls (List.replicate N false)) 4)).alloc (.cells #[.slice (some ⟨Wa.heap.size, 0, none⟩) N N] 26)) := ((Below.refl _ _).alloc (Nat.le_refl _) _).alloc (by simp) _
      have sb : ((Wa.alloc (.cells (bls (List.replicate N false)) 4)).alloc (.cells #[.slice (some ⟨Wa.heap.size, 0, none⟩) N N] 26)).heap.size = Wa.heap.size + 1 + 1 := by simp
      have sb' : (Wa.alloc (.cells (bls (List.replicate N false)) 4)).heap.size = Wa.heap.size + 1 := by simp
      rw [sb'] at hK10
      clear sb'
      have HIb := Lib.hid (And.intro hKo (And.intro hK10 (And.intro bb sb)))
      clear hKo hK10 bb sb
      generalize (Wa.alloc (.cells (bls (List.replicate N false)) 4)).alloc (.cells #[.slice (some ⟨Wa.heap.size, 0, none⟩) N N] 26) = Wb at *
      have hJ : Blk Wb g 23 #[.slice A2 k c2] ∧ Blk Wb (g + 2) 26 #[.slice (some ⟨g + 1, 0, none⟩) N N] ∧ Blk Wb (g + 1) 4 (bls (WanM.snl (lks ks) chain)) ∧ Blk Wb G1 39 #[.func (.func 9) #[] #[.pointer (some ⟨g, 0, none⟩)]] ∧ Blk Wb (G1 + 1) 4 (bls (List.replicate N false)) ∧ Blk Wb (G1 + 1 + 1) 26 #[.slice (some ⟨G1 + 1, 0, none⟩) N N] ∧ Below g w Wb ∧ Wb.heap.size = G1 + 1 + 1 + 1 := by
        obtain ⟨k9, ⟨k3, k5, ks', bel⟩, sa⟩ := HIa.out
        obtain ⟨ko, k10, bb, sb⟩ := HIb.out
        rw [← sa]
        exact ⟨k3.below bb k3.lt, k5.below bb k5.lt, ks'.below bb ks'.lt, k9.below bb k9.lt, ko, k10, bel.trans (bb.mono (by rw [sa]; have := HLT.out; omega)), sb⟩
      have hsa := HIa.out.2.2
      simp only [hsa]
      clear hsa HIa HIb
      have HJ := Lib.hid hJ
      clear hJ
      go_upto_region 12 with fail
      go_wp2_with fail
      refine (backward_any A N c _).mono ?_
      rintro e w2 ⟨rfl, rfl⟩
      go_wp2
      have hk11 := (Blk.new Wb 4 #[.bool false]).alloc (.cells #[.slice A N c] 22)
      have hkc := Blk.new (Wb.alloc (.cells #[.bool false] 4)) 22 #[.slice A N c]
      have hbe : Below Wb.heap.size Wb ((Wb.alloc (.cells #[.bool false] 4)).alloc (.cells #[.slice A N c] 22)) := ((Below.refl _ _).alloc (Nat.le_refl _) _).alloc (by simp) _
      have hse : ((Wb.alloc (.cells #[.bool false] 4)).alloc (.cells #[.slice A N c] 22)).heap.size = Wb.heap.size + 1 + 1 := by simp
      have hs1 : (Wb.alloc (.cells #[.bool false] 4)).heap.size = Wb.heap.size + 1 := by simp
      rw [hs1] at hkc
      clear hs1
      generalize (Wb.alloc (.cells #[.bool false] 4)).alloc (.cells #[.slice A N c] 22) = We at *
      have hsb := HJ.out.2.2.2.2.2.2.2
      rw [hsb] at hk11 hkc hse
      simp only [hsb]
      have hSn : Sn ⟨g, g + 2, g + 1, G1, G1 + 1, G1 + 1 + 1, G1 + 1 + 1 + 1, G1 + 1 + 1 + 1 + 1, N, c2, c, A2, A, ks, WanM.snl (lks ks) chain⟩ w (List.replicate N false) false We := by
        obtain ⟨k3, k5, ks', k9, ko, k10, bel, _⟩ := HJ.out
        exact ⟨by rw [← HM.out] at k3; exact k3.below hbe k3.lt, k5.below hbe k5.lt, ks'.below hbe ks'.lt, k9.below hbe k9.lt, ko.below hbe ko.lt, k10.below hbe k10.lt, hk11, hkc, by rw [← HG.out] at bel; exact bel.trans (hbe.mono bel.size)⟩
      have hOk : SnA.Ok ⟨g, g + 2, g + 1, G1, G1 + 1, G1 + 1 + 1, G1 + 1 + 1 + 1, G1 + 1 + 1 + 1 + 1, N, c2, c, A2, A, ks, WanM.snl (lks ks) chain⟩ w := by
        have h1 := HLT.out
        have h2 := HG.out
        constructor <;> dsimp only <;> omega
      have HSN := Lib.hid hSn
      have HOK := Lib.hid hOk
      have HSE := Lib.hid hse
      clear hSn hOk hse hk11 hkc hbe hsb HJ
      refine (wpIn_wide (n := 5)).1 ?_
      refine wpIn_rangeFunc_ownH rfl (by decide) (gf := 18) (lb := #[.pointer (some ⟨G1 + 1 + 1 + 1 + 1, 0, none⟩)]) rfl trivial (enters_of Try.func18 (by kernel_rfl) rfl)
        (backward_stops 4 (G1 + 1 + 1 + 1 + 1) (by omega) chain A c w We HR.out (by rw [HN.out]; omega) HSN.out.bel (by rw [HN.out]; exact HSN.out.kc))
        (fun h q => KpW.trans h q)
        (fun W l o o' h1 h2 h3 h4 => ⟨belowK_b HSN.out.bel.size W l o o' h1 h2 h3 h4, World.putObj_heap_other (by have := HSN.out.kc.lt; dsimp only at this; omega)⟩)
        (Below.refl _ _) (fun _ => rfl)
        (fun pre W => Sn ⟨g, g + 2, g + 1, G1, G1 + 1, G1 + 1 + 1, G1 + 1 + 1 + 1, G1 + 1 + 1 + 1 + 1, N, c2, c, A2, A, ks, WanM.snl (lks ks) chain⟩ w (WanM.st (WanM.seenB (lks ks) chain) (WanM.openB (lks ks)) N pre).1 (WanM.st (WanM.seenB (lks ks) chain) (WanM.openB (lks ks)) N pre).2 W)
        (fun _ _ _ => False)
        (fun s X Y row hs hg hr => hs.abides HSN.out.bel.size hg hr)
        (fun _ _ _ _ _ hs _ _ => hs)
        HSN.out
        (fun x a' W => ∃ Bx, We.heap.size ≤ Bx ∧ Blk W Bx 36 (hdc x.2) ∧ AxF N (x.1 % N) Bx (g + 2) G1 (G1 + 1 + 1) (G1 + 1 + 1 + 1) a')
        (fun x a' _ X Y row hs hg hr => by obtain ⟨Bx, h1, h2, h3⟩ := hs; exact ⟨Bx, h1, h2.abides hg (fun r e => (hr r e).2), h3⟩)
        ?assign ?body ?done ?stop
      case assign =>
        intro l pre x W K hi hK
        obtain ⟨xi, xt, xd, xg⟩ := x
        rw [HN.out]
        unfold encB hedV
        dsimp only
        have hbe : Below W.heap.size W (W.alloc (.cells #[.int .u64 (xt : Int), .bool xd, .bool xg] 36)) := (Below.refl _ _).alloc (Nat.le_refl _) _
        have hbn := Blk.new W 36 #[.int .u64 (xt : Int), .bool xd, .bool xg]
        have HI := Lib.hid hi
        have HBE := Lib.hid hbe
        clear hi hbe
        gi_wp2
        refine hK _ _ ((KeepsOthers.alloc _ _).from _) ⟨HBE.out.mono HI.out.bel.size, Below.heap_alloc W _ _ HI.out.kc.lt⟩ (HI.out.below HBE.out) ⟨W.heap.size, ?_, hbn, ?_⟩
        · have := HI.out.kc.lt
          have h2 := HSE.out
          dsimp only at this
          omega
        · exact ⟨rfl, rfl, rfl, rfl, rfl, rfl, rfl, rfl⟩
      case body =>
        rintro l pre x a' W hl ⟨r, hr⟩ hi ⟨Bx, hBx, bX, hA⟩ hlt
        refine wpIn_block ?_
        have hN0 : 0 < N := by rw [HN.out] at hlt; omega
        have hSE := HSE.out
        refine wround (S := ⟨g, g + 2, g + 1, G1, G1 + 1, G1 + 1 + 1, G1 + 1 + 1 + 1, G1 + 1 + 1 + 1 + 1, N, c2, c, A2, A, ks, WanM.snl (lks ks) chain⟩) (w0 := w) (W := W) (Bx := Bx) (i := x.1 % N) (x := x.2) (sn := WanM.seenB (lks ks) chain) (op := WanM.openB (lks ks)) HOK.out (Nat.mod_lt _ hN0) (WanM.st_len _ _ _ _) (WanM.snl_get (by rw [HN.out]; exact Nat.mod_lt _ hN0)) rfl HLK.out (by dsimp only; omega) (by dsimp only; omega) hA ⟨hi, Below.refl _ _, KeepsOthers.refl _, bX⟩ ?_
        intro a w' hs
        refine ⟨hs.ko.from _, ⟨hs.bel, Eq.trans hs.sn.kc hi.kc.symm⟩, ?_⟩
        dsimp only
        rw [WanM.st_snoc]
        exact hs.sn
      case done =>
        intro D xs W hD hS hI hKD
        obtain rfl : xs = WanM.upto chain chain.length := hS
        have HI := Lib.hid hI
        clear hI
        have c0 := HI.out.k10.cell 0
        simp only [List.getElem?_toArray, List.getElem?_cons_zero] at c0
        go_wp2
        refine ⟨by simp, .inl ⟨_, _, rfl, run_takeDeferred hKD, ?_⟩⟩
        refine ⟨_, results_tmp rfl _ _ _, ?_⟩
        have hbD := belowK_b HSN.out.bel.size W D _ (.deferred none) hD hKD rfl rfl
        have hI := HI.out
        rw [← HN.out, WanM.st_all] at hI
        have hwl : (WanM.wanted (lks ks) chain).length = N := by rw [← WanM.st_all, WanM.st_len, HN.out]
        have hko := hI.ko.abides (grownBy_putObj' W D (.deferred none)) (fun r e => by cases e; exact ⟨_, hKD, rfl⟩)
        refine ⟨G1 + 1, by rw [hwl]; rfl, .inr ⟨G1 + 1, 0, rfl, ?_⟩, hI.bel.trans hbD⟩
        intro j u hu
        rw [hko.cell, Nat.zero_add]
        unfold bls
        rw [List.getElem?_toArray]
        exact hu
      case stop =>
        intro D c pre W _ _ h _
        exact h.elim
end Go.Proofs.Ytplknfbdonenmaa
