/-
  Contracts of layer 10: Read of the document. Conditions: the value reads as a heap whose numbers fit.
-/
import Derived.Test.YtappejihclmjmaaHB
import Derived.Test.YtappejihclmjmaaPK
namespace Go.Proofs.Ytappejihclmjmaa
open Go.RowKit
attribute [local go_sem ↓] Go.wp_at_zero Go.wp_at_succ

set_option maxRecDepth 100000 in
set_option maxHeartbeats 2000000 in
theorem rread_any (v : Hv) (h : Hp) (y : Int) (w : World) (his : v.Is w h) (wf : h.lay.Wf) (hy1 : 0 ≤ y) (hy2 : y < 18446744073709551616) :
    Calls Try.prog 40 #[.agg v.cells, .int .u64 y] w (RetB (.tuple #[.int .u64 (rdW h y : Int), .int .i64 (fndE h.lay y)]) w) := by
  have HL := Lib.hid fun W => rhlayout_any v W
  have HF := Lib.hid fun W => rfind_any h.lay y W wf hy1 hy2
  rw [his.lay] at HL
  by_cases hf : h.lay.Ok ∧ fndK h.lay y ≠ 0
  · have hfe : fndE h.lay y = 0 := by rw [fndE, if_pos hf.1, if_neg hf.2]
    have hlt := fndI_lt h y hf.1 hf.2
    have hkb := fndK_le h.lay y
    have hpe : fndP h.lay y = (fndK h.lay y : Int) := by rw [fndP, if_pos hf.1]
    have hsl := his.part (fndK h.lay y) (by omega) hkb
    rw [rdW, if_pos hf]
    rw [fndV, hpe, hfe] at HF
    rw [hfe]
    have hk1 : 1 ≤ (fndK h.lay y : Int) := by omega
    have hk4 : (fndK h.lay y : Int) ≤ 4 := by omega
    obtain ⟨P, hP⟩ : ∃ P : Int, P = (fndK h.lay y : Int) := ⟨_, rfl⟩
    obtain ⟨I, hI⟩ : ∃ I, I = fndI h.lay y := ⟨_, rfl⟩
    obtain ⟨L, hL⟩ : ∃ L, L = h.part (fndK h.lay y) := ⟨_, rfl⟩
    obtain ⟨S, hS⟩ : ∃ S, S = v.part P := ⟨_, rfl⟩
    rw [← hP, ← hI] at HF
    rw [← hP, ← hS, ← hL] at hsl
    rw [← hP] at hk1 hk4
    rw [← hI, ← hL] at hlt
    rw [← hI, ← hL]
    obtain ⟨hI0, hI1⟩ := hlt
    obtain ⟨hs1, hs2, hs3, hs4⟩ := hsl
    obtain ⟨b, off, hsa, hbl, hcell⟩ := hs4.us_at hI1
    obtain ⟨X, hX⟩ : ∃ X, X = (L[I.toNat]?).getD 0 := ⟨_, rfl⟩
    rw [← hX] at hcell ⊢
    have hIn : I < (S.n : Int) := by omega
    have hSn : (S.n : Int) ≤ 9223372036854775807 := by omega
    have hPP := fun W => part_any v P W hk1 hk4
    rw [← hS] at hPP
    simp only [Sl.v, hsa] at hPP
    have HP := Lib.hid hPP
    clear hPP
    clear hP hI hL hS hX hs1 hs2 hs3 hs4 hfe hkb hpe hf his wf hsa
    simp only [Hv.cells, Sl.v, Lay.cells] at HL HF HP ⊢
    go_enter Try.func40, Try.ntmps40
    go_wp2_with fail
    have hv0 := HeapAt.lit w v 50
    simp only [Hv.cells, Sl.v] at hv0
    refine (HL.out _).mono ?_
    intro e w1 hr
    obtain ⟨rfl, hb1⟩ := hr.both
    have hv1 := hv0.below hb1
    have hbw1 := bl_step (bl_alloc (bl_refl w) _) hb1
    have hcell1 := cells_keep2 hcell hbw1
    clear hr hb1 hv0 hcell
    go_wp2_with fail
    refine (HF.out _).mono ?_
    intro e w2 hr
    obtain ⟨rfl, hb2⟩ := hr.both
    have hv2 := hv1.below hb2
    have hbw2 := bl_step hbw1 hb2
    have hcell2 := cells_keep2 hcell1 hb2
    clear hr hb2 hv1 hcell1 hbw1
    obtain ⟨c0, c1, c2, c3, c4, c5, c6, c7, c8, c9⟩ := id hv2
    have hz2 : w.heap.size < w2.heap.size := World.block_lt_of_cell? _ _ c0
    have hv3 := hv2.alloc (.cells #[.int .i64 P, .int .i64 I] 27)
    have hcell3 := cells_keep2 hcell2 (bl_alloc (bl_refl w2) (.cells #[.int .i64 P, .int .i64 I] 27))
    have hbw3 := bl_alloc hbw2 (.cells #[.int .i64 P, .int .i64 I] 27)
    have hp3 := TwoAt.lit w2 (.int .i64 P) (.int .i64 I) 27
    go_wp2_with fail
    clear c0 c1 c2 c3 c4 c5 c6 c7 c8 c9 hv2 hcell2 hbw2 hz2
    obtain ⟨W4, hW4⟩ : ∃ W4, W4 = w2.alloc (.cells #[.int .i64 P, .int .i64 I] 27) := ⟨_, rfl⟩
    rw [← hW4] at hv3 hp3 hcell3 hbw3 ⊢
    clear hW4
    obtain ⟨g, hg⟩ : ∃ g, g = w2.heap.size := ⟨_, rfl⟩
    rw [← hg] at hp3 ⊢
    clear hg
    obtain ⟨c0, c1, c2, c3, c4, c5, c6, c7, c8, c9⟩ := id hv3
    obtain ⟨p0, p1⟩ := id hp3
    have z0 : g < W4.heap.size := World.block_lt_of_cell? _ _ p0
    have z1 : w.heap.size < W4.heap.size := World.block_lt_of_cell? _ _ c0
    have z2 : b < W4.heap.size := World.block_lt_of_cell? _ _ hcell3
    refine wp_region_later (by kernel_rfl) (by kernel_rfl) ?_
    repeat (go_big_quiet_step ((with_reducible exact later_retB (HP.out _))))
    refine wpQuiet_nil ?_
    intro _ hw'
    obtain ⟨x, hw''⟩ := hw'
    subst hw''
    go_wp2
    go_ret2
    exact ⟨rfl, bl_step hbw3 x.below⟩
  · have hE : ∃ P I E : Int, fndV h.lay y = .tuple #[.agg #[.int .i64 P, .int .i64 I], .int .i64 E] ∧ E = fndE h.lay y := ⟨_, _, _, rfl, rfl⟩
    obtain ⟨P, I, E, hV, hEe⟩ := hE
    have hne : (E != 0) = true := by
      rw [hEe, fndE]
      by_cases c : h.lay.Ok
      · rw [if_pos c, if_pos (by
          by_cases d : fndK h.lay y = 0
          · exact d
          · exact absurd ⟨c, d⟩ hf)]
        rfl
      · rw [if_neg c]; rfl
    rw [hV] at HF
    rw [rd_none h y hf, ← hEe]
    clear hV hEe hf his wf
    simp only [Hv.cells, Sl.v, Lay.cells] at HL HF ⊢
    go_enter Try.func40, Try.ntmps40
    go_wp2_with fail
    refine (HL.out _).mono ?_
    intro e w1 hr
    obtain ⟨rfl, hb1⟩ := hr.both
    go_wp2_with fail
    refine (HF.out _).mono ?_
    intro e w2 hr2
    obtain ⟨rfl, hb2⟩ := hr2.both
    go_wp2
    go_ret2
    exact ⟨rfl, bl_alloc (bl_step (bl_step (bl_alloc (bl_refl w) _) hb1) hb2) _⟩
end Go.Proofs.Ytappejihclmjmaa
