/-
  Contracts of layer 10: part, Read of both. Conditions: the value reads as a heap whose numbers fit.
-/
import Derived.Test.YtappejihclmjmaaHA
import Derived.Test.YtappejihclmjmaaPN
import Derived.Test.YtappejihclmjmaaGrow
import Derived.IntWalk
namespace Go.Proofs.Ytappejihclmjmaa
open Go.RowKit
attribute [local go_sem ↓] Go.wp_at_zero Go.wp_at_succ

set_option maxRecDepth 100000 in
set_option maxHeartbeats 1000000 in
theorem wpart_any (g : Nat) (p : Int) (w : World) (hp : 1 ≤ p) (hp4 : p ≤ 4) : Calls Try.prog 48 #[.pointer (some ⟨g, 0, none⟩), .int .i64 p] w (RetB (.pointer (some ⟨g, p.toNat + 4, none⟩)) w) := by
  go_enter Try.func48, Try.ntmps48
  go_wp2_with fail
  refine wp_region_alloc 17 27 _ (some 5) (.cells #[.pointer none, .pointer none, .pointer none, .pointer none] 85) ?fin (by kernel_rfl) (by kernel_rfl) rfl rfl rfl (fun _ _ => rfl) rfl (by kernel_rfl) ?head ?tail
  case head =>
    intro C G
    simp only [List.take_succ_cons, List.take_zero]
    repeat (go_big_quiet_step (fail))
    refine wpQuiet_nil ?_
    exact rfl
  case tail =>
  intro b y hb hzb
  simp only [List.drop_succ_cons, List.drop_zero]
  have c0 : y.w.cell? ⟨b, 0, none⟩ = some (.pointer none) := blk_cell hzb 0
  have c1 : y.w.cell? ⟨b, 1, none⟩ = some (.pointer none) := blk_cell hzb 1
  have c2 : y.w.cell? ⟨b, 2, none⟩ = some (.pointer none) := blk_cell hzb 2
  have c3 : y.w.cell? ⟨b, 3, none⟩ = some (.pointer none) := blk_cell hzb 3
  have f0 := blk_frozen hzb 0
  have f1 := blk_frozen hzb 1
  have f2 := blk_frozen hzb 2
  have f3 := blk_frozen hzb 3
  have hbel := y.below
  clear hzb
  obtain rfl | rfl | rfl | rfl : p = 1 ∨ p = 2 ∨ p = 3 ∨ p = 4 := by omega
  all_goals
    go_wp2
    go_ret
    exact ⟨by simp, (((hbel.setCell hb _).setCell hb _).setCell hb _).setCell hb _⟩

theorem cells_keep2 {W w' : World} {b o : Nat} {v : Value} (h : W.cell? ⟨b, o, none⟩ = some v) (hb : Below W.heap.size W w') : w'.cell? ⟨b, o, none⟩ = some v :=
  (hb.cell (p := ⟨b, o, none⟩) (World.block_lt_of_cell? W _ h)).trans h
/-- The slice of a part, and the part's words. -/
theorem Hv.Is.part {v : Hv} {w : World} {h : Hp} (k : v.Is w h) (p : Nat) (hp : 1 ≤ p) (hp4 : p ≤ 4) : (v.part (p : Int)).Is w (h.part p) := by
  obtain ⟨_, h1, h2, h3, h4, _⟩ := k
  obtain rfl | rfl | rfl | rfl : p = 1 ∨ p = 2 ∨ p = 3 ∨ p = 4 := by omega
  · exact h1
  · exact h2
  · exact h3
  · exact h4
/-- A heap's cells lie in block g. -/
def HeapAt (w : World) (g : Nat) (v : Hv) : Prop :=
  w.cell? ⟨g, 0, none⟩ = some (.int .u64 v.base) ∧ w.cell? ⟨g, 1, none⟩ = some (.int .i64 v.cap) ∧ w.cell? ⟨g, 2, none⟩ = some (.int .i64 v.tu) ∧ w.cell? ⟨g, 3, none⟩ = some (.bool v.cyc) ∧ w.cell? ⟨g, 4, none⟩ = some (.int .i64 v.scan) ∧
  w.cell? ⟨g, 5, none⟩ = some (.slice v.low.a v.low.n v.low.c) ∧ w.cell? ⟨g, 6, none⟩ = some (.slice v.high.a v.high.n v.high.c) ∧ w.cell? ⟨g, 7, none⟩ = some (.slice v.old.a v.old.n v.old.c) ∧ w.cell? ⟨g, 8, none⟩ = some (.slice v.far.a v.far.n v.far.c) ∧ w.cell? ⟨g, 9, none⟩ = some (.slice v.roots.a v.roots.n v.roots.c)
theorem HeapAt.belowB {w w' : World} {g B : Nat} {v : Hv} (h : HeapAt w g v) (hb : Below B w w') (hg : g < B) : HeapAt w' g v := by
  obtain ⟨c0, c1, c2, c3, c4, c5, c6, c7, c8, c9⟩ := h
  have e : ∀ i, w'.cell? ⟨g, i, none⟩ = w.cell? ⟨g, i, none⟩ := fun i => hb.cell (p := ⟨g, i, none⟩) hg
  exact ⟨(e 0).trans c0, (e 1).trans c1, (e 2).trans c2, (e 3).trans c3, (e 4).trans c4, (e 5).trans c5, (e 6).trans c6, (e 7).trans c7, (e 8).trans c8, (e 9).trans c9⟩
theorem HeapAt.below {w w' : World} {g : Nat} {v : Hv} (h : HeapAt w g v) (hb : Below w.heap.size w w') : HeapAt w' g v := h.belowB hb (World.block_lt_of_cell? w _ h.1)
theorem HeapAt.alloc {w : World} {g : Nat} {v : Hv} (h : HeapAt w g v) (o : Obj) : HeapAt (w.alloc o) g v := h.below (bl_alloc (bl_refl w) o)
theorem HeapAt.lit (w : World) (v : Hv) (t : TypeId) : HeapAt (w.alloc (.cells v.cells t)) w.heap.size v := by
  refine ⟨?_, ?_, ?_, ?_, ?_, ?_, ?_, ?_, ?_, ?_⟩ <;> (rw [cell_of_row _ _ _ _ _ _ (heap_alloc_new w _)]; rfl)
theorem HeapAt.part {w : World} {g : Nat} {v : Hv} (h : HeapAt w g v) (p : Int) (hp : 1 ≤ p) (hp4 : p ≤ 4) : w.cell? ⟨g, p.toNat + 4, none⟩ = some (.slice (v.part p).a (v.part p).n (v.part p).c) := by
  obtain ⟨_, _, _, _, _, c5, c6, c7, c8, _⟩ := h
  obtain rfl | rfl | rfl | rfl : p = 1 ∨ p = 2 ∨ p = 3 ∨ p = 4 := by omega
  · exact c5
  · exact c6
  · exact c7
  · exact c8

theorem rd_none (h : Hp) (y : Int) (hn : ¬ (h.lay.Ok ∧ fndK h.lay y ≠ 0)) : rdW h y = 0 := by rw [rdW, if_neg hn]

set_option maxRecDepth 100000 in
set_option maxHeartbeats 2000000 in
theorem read_any (v : Hv) (h : Hp) (y : Int) (w : World) (his : v.Is w h) (wf : h.lay.Wf) (hy1 : 0 ≤ y) (hy2 : y < 18446744073709551616) :
    Calls Try.prog 39 #[.agg v.cells, .int .u64 y] w (RetB (.tuple #[.int .u64 (rdW h y : Int), .int .i64 (fndE h.lay y)]) w) := by
  have HL := Lib.hid fun W => hlayout_any v W
  have HF := Lib.hid fun W => find_any h.lay y W wf hy1 hy2
  rw [his.lay] at HL
  by_cases hf : h.lay.Ok ∧ fndK h.lay y ≠ 0
  · have hfe : fndE h.lay y = 0 := by rw [fndE, if_pos hf.1, if_neg hf.2]
    have hlt := fndI_lt h y hf.1 hf.2
    have hkb := fndK_le h.lay y
    have hpe : fndP h.lay y = (fndK h.lay y : Int) := by rw [fndP, if_pos hf.1]
    have hsl := his.part (fndK h.lay y) (by omega) hkb
    rw [rdW, if_pos hf]
    rw [fndV, hpe, hfe] at HF
    rw [hfe]
    have hk1 : 1 ≤ (fndK h.lay y : Int) := by omega
    have hk4 : (fndK h.lay y : Int) ≤ 4 := by omega
    obtain ⟨P, hP⟩ : ∃ P : Int, P = (fndK h.lay y : Int) := ⟨_, rfl⟩
    obtain ⟨I, hI⟩ : ∃ I, I = fndI h.lay y := ⟨_, rfl⟩
    obtain ⟨L, hL⟩ : ∃ L, L = h.part (fndK h.lay y) := ⟨_, rfl⟩
    obtain ⟨S, hS⟩ : ∃ S, S = v.part P := ⟨_, rfl⟩
    rw [← hP, ← hI] at HF
    rw [← hP, ← hS, ← hL] at hsl
    rw [← hP] at hk1 hk4
    rw [← hI, ← hL] at hlt
    rw [← hI, ← hL]
    obtain ⟨hI0, hI1⟩ := hlt
    obtain ⟨hs1, hs2, hs3, hs4⟩ := hsl
    obtain ⟨b, off, hsa, hbl, hcell⟩ := hs4.us_at hI1
    obtain ⟨X, hX⟩ : ∃ X, X = (L[I.toNat]?).getD 0 := ⟨_, rfl⟩
    rw [← hX] at hcell ⊢
    have hIn : I < (S.n : Int) := by omega
    have hSn : (S.n : Int) ≤ 9223372036854775807 := by omega
    have HP := Lib.hid fun g W => wpart_any g P W hk1 hk4
    have hwork : ∀ W g, HeapAt W g v → W.cell? ⟨g, P.toNat + 4, none⟩ = some (.slice (some ⟨b, off, none⟩) S.n S.c) := fun W g hh => by
      have := hh.part P hk1 hk4
      rw [← hS, hsa] at this
      exact this
    have HW := Lib.hid hwork
    clear hP hI hL hS hX hs1 hs2 hs3 hs4 hwork hfe hkb hpe hf his wf hsa
    simp only [Hv.cells, Sl.v, Lay.cells] at HL HF ⊢
    go_enter Try.func39, Try.ntmps39
    go_wp2_with fail
    have hv0 := HeapAt.lit w v 50
    simp only [Hv.cells, Sl.v] at hv0
    refine (HL.out _).mono ?_
    intro e w1 hr
    obtain ⟨rfl, hb1⟩ := hr.both
    have hv1 := hv0.below hb1
    have hbw1 := bl_step (bl_alloc (bl_refl w) _) hb1
    have hcell1 := cells_keep2 hcell hbw1
    clear hr hb1 hv0 hcell
    go_wp2_with fail
    refine (HF.out _).mono ?_
    intro e w2 hr
    obtain ⟨rfl, hb2⟩ := hr.both
    have hv2 := hv1.below hb2
    have hbw2 := bl_step hbw1 hb2
    have hcell2 := cells_keep2 hcell1 hb2
    clear hr hb2 hv1 hcell1 hbw1
    obtain ⟨c0, c1, c2, c3, c4, c5, c6, c7, c8, c9⟩ := id hv2
    have hz2 : w.heap.size < w2.heap.size := World.block_lt_of_cell? _ _ c0
    have hv3 := hv2.alloc (.cells #[.int .i64 P, .int .i64 I] 27)
    have hcell3 := cells_keep2 hcell2 (bl_alloc (bl_refl w2) (.cells #[.int .i64 P, .int .i64 I] 27))
    have hbw3 := bl_alloc hbw2 (.cells #[.int .i64 P, .int .i64 I] 27)
    have hp3 := TwoAt.lit w2 (.int .i64 P) (.int .i64 I) 27
    have hw3 := HeapAt.lit (w2.alloc (.cells #[.int .i64 P, .int .i64 I] 27)) v 81
    rw [show (w2.alloc (.cells #[.int .i64 P, .int .i64 I] 27)).heap.size = w2.heap.size + 1 by simp] at hw3
    have hp4 := hp3.alloc (.cells v.cells 81)
    have hcell4 := cells_keep2 hcell3 (bl_alloc (bl_refl _) (.cells v.cells 81))
    have hbw4 := bl_alloc hbw3 (.cells v.cells 81)
    simp only [Hv.cells, Sl.v] at hw3 hp4 hcell4 hbw4
    go_wp2_with fail
    clear c0 c1 c2 c3 c4 c5 c6 c7 c8 c9 hv2 hv3 hcell2 hcell3 hp3 hbw2 hbw3 hz2
    obtain ⟨W4, hW4⟩ : ∃ W4, W4 = (w2.alloc (.cells #[.int .i64 P, .int .i64 I] 27)).alloc (.cells #[.int .u64 v.base, .int .i64 v.cap, .int .i64 v.tu, .bool v.cyc, .int .i64 v.scan, .slice v.low.a v.low.n v.low.c, .slice v.high.a v.high.n v.high.c, .slice v.old.a v.old.n v.old.c, .slice v.far.a v.far.n v.far.c, .slice v.roots.a v.roots.n v.roots.c] 81) := ⟨_, rfl⟩
    rw [← hW4] at hw3 hp4 hcell4 hbw4 ⊢
    clear hW4
    obtain ⟨g, hg⟩ : ∃ g, g = w2.heap.size := ⟨_, rfl⟩
    rw [← hg] at hw3 hp4 ⊢
    clear hg
    have hpart := HW.out W4 (g + 1) hw3
    obtain ⟨p0, p1⟩ := id hp4
    have z0 : g < W4.heap.size := World.block_lt_of_cell? _ _ p0
    have z1 : g + 1 < W4.heap.size := World.block_lt_of_cell? _ _ hw3.1
    have z2 : b < W4.heap.size := World.block_lt_of_cell? _ _ hcell4
    refine wp_region_later (by kernel_rfl) (by kernel_rfl) ?_
    repeat (go_big_quiet_step ((with_reducible exact later_retB (HP.out _ _))))
    refine wpQuiet_nil ?_
    intro _ hw'
    obtain ⟨x, hw''⟩ := hw'
    subst hw''
    go_wp2
    go_ret2
    exact ⟨rfl, bl_step hbw4 x.below⟩
  · have hE : ∃ P I E : Int, fndV h.lay y = .tuple #[.agg #[.int .i64 P, .int .i64 I], .int .i64 E] ∧ E = fndE h.lay y := ⟨_, _, _, rfl, rfl⟩
    obtain ⟨P, I, E, hV, hEe⟩ := hE
    have hne : (E != 0) = true := by
      rw [hEe, fndE]
      by_cases c : h.lay.Ok
      · rw [if_pos c, if_pos (by
          by_cases d : fndK h.lay y = 0
          · exact d
          · exact absurd ⟨c, d⟩ hf)]
        rfl
      · rw [if_neg c]; rfl
    rw [hV] at HF
    rw [rd_none h y hf, ← hEe]
    clear hV hEe hf his wf
    simp only [Hv.cells, Sl.v, Lay.cells] at HL HF ⊢
    go_enter Try.func39, Try.ntmps39
    go_wp2_with fail
    refine (HL.out _).mono ?_
    intro e w1 hr
    obtain ⟨rfl, hb1⟩ := hr.both
    go_wp2_with fail
    refine (HF.out _).mono ?_
    intro e w2 hr2
    obtain ⟨rfl, hb2⟩ := hr2.both
    go_wp2
    go_ret2
    exact ⟨rfl, bl_alloc (bl_step (bl_step (bl_alloc (bl_refl w) _) hb1) hb2) _⟩
end Go.Proofs.Ytappejihclmjmaa
