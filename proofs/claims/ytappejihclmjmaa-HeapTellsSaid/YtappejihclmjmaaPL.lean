/-
  The laws' own helper for layer 7: Layout. Conditions: integers that fit.
-/
import Derived.Test.YtappejihclmjmaaPK
namespace Go.Proofs.Ytappejihclmjmaa
open Go.RowKit
attribute [local go_sem ↓] Go.wp_at_zero Go.wp_at_succ

/-- Of raw numbers a layout. -/
def layOf (b n0 n1 n2 n3 n4 n5 : Int) : Lay :=
  ⟨1 + b % (9223372036854775808 - 2 * pickI n0 41), pickI n0 41, pickI n1 2, pickI n2 (pickI n0 41 + 1), pickI n3 (pickI n0 41 - pickI n2 (pickI n0 41 + 1) + 1), pickI n4 (pickI n0 41 + 1), pickI n5 (pickI n0 41 - pickI n4 (pickI n0 41 + 1) + 1)⟩

theorem layOf_ok (b n0 n1 n2 n3 n4 n5 : Int) : (layOf b n0 n1 n2 n3 n4 n5).Ok ∧ (layOf b n0 n1 n2 n3 n4 n5).cap ≤ 40 := by
  have h0 := pickI_b n0 41 (by omega)
  have h1 := pickI_b n1 2 (by omega)
  have h2 := pickI_b n2 (pickI n0 41 + 1) (by omega)
  have h3 := pickI_b n3 (pickI n0 41 - pickI n2 (pickI n0 41 + 1) + 1) (by omega)
  have h4 := pickI_b n4 (pickI n0 41 + 1) (by omega)
  have h5 := pickI_b n5 (pickI n0 41 - pickI n4 (pickI n0 41 + 1) + 1) (by omega)
  have h6 := Int.emod_nonneg b (show 9223372036854775808 - 2 * pickI n0 41 ≠ 0 by omega)
  have h7 := Int.emod_lt_of_pos b (show 0 < 9223372036854775808 - 2 * pickI n0 41 by omega)
  unfold Lay.Ok layOf
  simp only
  omega
theorem ok_wf {l : Lay} (h : l.Ok) : l.Wf := by
  unfold Lay.Ok at h
  unfold Lay.Wf
  omega

theorem blk_set {w : World} {g : Nat} {cs : Array Value} {t : TypeId} {z : Nat × Nat} (h : w.heap[g]? = some (.cells cs t z)) (i : Nat) (u : Value) : (w.setCell ⟨g, i, none⟩ u).heap[g]? = some (.cells (cs.setIfInBounds i u) t z) := by
  simp [World.setCell, Array.getElem?_modify, h]

theorem lay_facts {w w1 : World} {g : Nat} {n0 n1 n2 n3 n4 n5 b cap tu low high old far : Int}
    (hb : Below ((w.alloc (.cells #[.int .i64 n0, .int .i64 n1, .int .i64 n2, .int .i64 n3, .int .i64 n4, .int .i64 n5] 25)).alloc (.cells #[.int .u64 0, .int .i64 0, .int .i64 0, .int .i64 0, .int .i64 0, .int .i64 0, .int .i64 0] 24)).heap.size
      ((w.alloc (.cells #[.int .i64 n0, .int .i64 n1, .int .i64 n2, .int .i64 n3, .int .i64 n4, .int .i64 n5] 25)).alloc (.cells #[.int .u64 0, .int .i64 0, .int .i64 0, .int .i64 0, .int .i64 0, .int .i64 0, .int .i64 0] 24)) w1)
    (hB : w1.heap[g]? = some (.cells #[.int .u64 b, .int .i64 cap, .int .i64 tu, .int .i64 low, .int .i64 high, .int .i64 old, .int .i64 far] 24 (0, 0))) :
    (w1.cell? ⟨g, 0, none⟩ = some (.int .u64 b) ∧ w1.cell? ⟨g, 1, none⟩ = some (.int .i64 cap) ∧ w1.cell? ⟨g, 2, none⟩ = some (.int .i64 tu) ∧ w1.cell? ⟨g, 3, none⟩ = some (.int .i64 low) ∧ w1.cell? ⟨g, 4, none⟩ = some (.int .i64 high) ∧ w1.cell? ⟨g, 5, none⟩ = some (.int .i64 old) ∧ w1.cell? ⟨g, 6, none⟩ = some (.int .i64 far)) ∧
    (∀ i, w1.frozen? ⟨g, i, none⟩ = false) ∧
    (w1.cell? ⟨w.heap.size, 0, none⟩ = some (.int .i64 n0) ∧ w1.cell? ⟨w.heap.size, 1, none⟩ = some (.int .i64 n1) ∧ w1.cell? ⟨w.heap.size, 2, none⟩ = some (.int .i64 n2) ∧ w1.cell? ⟨w.heap.size, 3, none⟩ = some (.int .i64 n3) ∧ w1.cell? ⟨w.heap.size, 4, none⟩ = some (.int .i64 n4) ∧ w1.cell? ⟨w.heap.size, 5, none⟩ = some (.int .i64 n5)) ∧
    (w1.cell? ⟨w.heap.size + 1, 0, none⟩ = some (.int .u64 0) ∧ w1.cell? ⟨w.heap.size + 1, 1, none⟩ = some (.int .i64 0) ∧ w1.cell? ⟨w.heap.size + 1, 2, none⟩ = some (.int .i64 0) ∧ w1.cell? ⟨w.heap.size + 1, 3, none⟩ = some (.int .i64 0) ∧ w1.cell? ⟨w.heap.size + 1, 4, none⟩ = some (.int .i64 0) ∧ w1.cell? ⟨w.heap.size + 1, 5, none⟩ = some (.int .i64 0) ∧ w1.cell? ⟨w.heap.size + 1, 6, none⟩ = some (.int .i64 0)) ∧
    (∀ i, w1.frozen? ⟨w.heap.size + 1, i, none⟩ = false) := by
  have hcl := fun i => blk_cell hB i
  have hb2 := fun o => below_cell hb w.heap.size o (by simp; omega)
  have hb3 := fun o => below_cell hb (w.heap.size + 1) o (by simp)
  have hb4 := fun o => below_frozen hb (w.heap.size + 1) o (by simp)
  refine ⟨⟨hcl 0, hcl 1, hcl 2, hcl 3, hcl 4, hcl 5, hcl 6⟩, fun i => blk_frozen hB i, ?_, ?_, fun i => ?_⟩
  · simp [hb2, go_sem]
  · simp [hb3, go_sem]
  · rw [hb4]; simp [go_sem]

set_option maxRecDepth 100000 in
set_option maxHeartbeats 2000000 in
theorem layout_any (b n0 n1 n2 n3 n4 n5 : Int) (w : World) (hb : 0 ≤ b ∧ b < 18446744073709551616) (g0 : -9223372036854775808 ≤ n0 ∧ n0 ≤ 9223372036854775807) (g1 : -9223372036854775808 ≤ n1 ∧ n1 ≤ 9223372036854775807) (g2 : -9223372036854775808 ≤ n2 ∧ n2 ≤ 9223372036854775807)
    (g3 : -9223372036854775808 ≤ n3 ∧ n3 ≤ 9223372036854775807) (g4 : -9223372036854775808 ≤ n4 ∧ n4 ≤ 9223372036854775807) (g5 : -9223372036854775808 ≤ n5 ∧ n5 ≤ 9223372036854775807) :
    Calls Try.prog 16 #[.int .u64 b, .agg #[.int .i64 n0, .int .i64 n1, .int .i64 n2, .int .i64 n3, .int .i64 n4, .int .i64 n5]] w (RetB (.agg (layOf b n0 n1 n2 n3 n4 n5).cells) w) := by
  obtain ⟨hb0, hb1⟩ := hb
  rw [layOf, Lay.cells]
  have hc := pickI_b n0 41 (by omega)
  have P0 := fun W => pick_any n0 41 W g0.1 g0.2 (by omega) (by omega)
  have P1 := fun W => pick_any n1 2 W g1.1 g1.2 (by omega) (by omega)
  have ht := pickI_b n1 2 (by omega)
  obtain ⟨tu, htu⟩ : ∃ x, x = pickI n1 2 := ⟨_, rfl⟩
  rw [← htu] at P1 ht ⊢
  obtain ⟨cap, hcap⟩ : ∃ x, x = pickI n0 41 := ⟨_, rfl⟩
  rw [← hcap] at P0 hc ⊢
  clear hcap htu g0 g1
  have P2 := fun W => pick_any n2 (cap + 1) W g2.1 g2.2 (by omega) (by omega)
  have hl := pickI_b n2 (cap + 1) (by omega)
  obtain ⟨low, hlow⟩ : ∃ x, x = pickI n2 (cap + 1) := ⟨_, rfl⟩
  rw [← hlow] at P2 hl ⊢
  have P3 := fun W => pick_any n3 (cap - low + 1) W g3.1 g3.2 (by omega) (by omega)
  have hh := pickI_b n3 (cap - low + 1) (by omega)
  obtain ⟨high, hhigh⟩ : ∃ x, x = pickI n3 (cap - low + 1) := ⟨_, rfl⟩
  rw [← hhigh] at P3 hh ⊢
  have P4 := fun W => pick_any n4 (cap + 1) W g4.1 g4.2 (by omega) (by omega)
  have ho := pickI_b n4 (cap + 1) (by omega)
  obtain ⟨old, hold⟩ : ∃ x, x = pickI n4 (cap + 1) := ⟨_, rfl⟩
  rw [← hold] at P4 ho ⊢
  have P5 := fun W => pick_any n5 (cap - old + 1) W g5.1 g5.2 (by omega) (by omega)
  have hf := pickI_b n5 (cap - old + 1) (by omega)
  obtain ⟨far, hfar⟩ : ∃ x, x = pickI n5 (cap - old + 1) := ⟨_, rfl⟩
  rw [← hfar] at P5 hf ⊢
  clear hlow hhigh hold hfar g2 g3 g4 g5
  have hm1 := Int.emod_nonneg b (show 9223372036854775808 - 2 * cap ≠ 0 by omega)
  have hm2 := Int.emod_lt_of_pos b (show 0 < 9223372036854775808 - 2 * cap by omega)
  have Q0 := Lib.hid P0
  have Q1 := Lib.hid P1
  have Q2 := Lib.hid P2
  have Q3 := Lib.hid P3
  have Q4 := Lib.hid P4
  have Q5 := Lib.hid P5
  obtain ⟨hc0, hc1⟩ := hc
  obtain ⟨hl0, hl1⟩ := hl
  obtain ⟨hh0, hh1⟩ := hh
  obtain ⟨ho0, ho1⟩ := ho
  obtain ⟨hf0, hf1⟩ := hf
  obtain ⟨ht0, ht1⟩ := ht
  clear P0 P1 P2 P3 P4 P5
  go_enter Try.func16, Try.ntmps16
  go_wp2_with fail
  refine wp_region_alloc 7 57 _ (some 5) (.cells #[.int .u64 0, .int .i64 0, .int .i64 0, .int .i64 0, .int .i64 0, .int .i64 0, .int .i64 0] 24) ?fin (by kernel_rfl) (by kernel_rfl) rfl rfl rfl (fun _ _ => rfl) rfl (by kernel_rfl) ?head ?tail
  case head =>
    intro C G
    simp only [List.take_succ_cons, List.take_zero]
    repeat (go_big_quiet_step ((first | with_reducible exact grown_same (Q0.out _) | with_reducible exact grown_same (Q1.out _))))
    refine wpQuiet_nil ?_
    exact rfl
  case tail =>
    intro g y hg hzb
    simp only [List.drop_succ_cons, List.drop_zero]
    have hg2 : w.heap.size + 1 + 1 ≤ g := by simpa using hg
    obtain ⟨v0, hv0⟩ : ∃ v, v = 1 + b % (9223372036854775808 - 2 * cap) := ⟨_, rfl⟩
    have HV0 := Lib.hid hv0
    obtain ⟨hG, hF, hX, hR, hE⟩ := lay_facts y.below hzb
    obtain ⟨c0, c1, c2, c3, c4, c5, c6⟩ := hG
    obtain ⟨x0, x1, x2, x3, x4, x5⟩ := hX
    obtain ⟨r0, r1, r2, r3, r4, r5, r6⟩ := hR
    have hbel : Below w.heap.size w y.w := bl_step (bl_alloc (bl_alloc (bl_refl w) _) _) y.below
    have hbg : w.heap.size ≤ g := by omega
    have HG := Lib.hid hg
    clear hg
    go_wp2_with fail
    refine (Q2.out _).mono ?_
    rintro e w1 ⟨rfl, hw⟩
    have hB1 := (blk_set (blk_set (blk_set (blk_set (blk_set (blk_set (blk_set (blk_set hzb 0 (.int .u64 0)) 1 (.int .i64 cap)) 2 (.int .i64 tu)) 3 (.int .i64 0)) 4 (.int .i64 0)) 5 (.int .i64 0)) 6 (.int .i64 0)) 0 (.int .u64 (1 + b % (9223372036854775808 - 2 * cap))))
    simp only [List.setIfInBounds_toArray, List.set_cons_zero, List.set_cons_succ] at hB1
    have hb1' := ((((((((y.below.setCell (p := ⟨g, 0, none⟩) HG.out (.int .u64 0)).setCell (p := ⟨g, 1, none⟩) HG.out (.int .i64 cap)).setCell (p := ⟨g, 2, none⟩) HG.out (.int .i64 tu)).setCell (p := ⟨g, 3, none⟩) HG.out (.int .i64 0)).setCell (p := ⟨g, 4, none⟩) HG.out (.int .i64 0)).setCell (p := ⟨g, 5, none⟩) HG.out (.int .i64 0)).setCell (p := ⟨g, 6, none⟩) HG.out (.int .i64 0)).setCell (p := ⟨g, 0, none⟩) HG.out (.int .u64 (1 + b % (9223372036854775808 - 2 * cap))))
    rw [hw] at hB1 hb1'
    have hbel1 : Below w.heap.size w w1 := bl_step (bl_alloc (bl_alloc (bl_refl w) _) _) hb1'
    rw [← hv0] at hB1
    replace hB1 : w1.heap[g]? = some (.cells #[.int .u64 v0, .int .i64 cap, .int .i64 tu, .int .i64 0, .int .i64 0, .int .i64 0, .int .i64 0] 24 (0, 0)) := hB1
    rw [← hv0]
    clear c0 c1 c2 c3 c4 c5 c6 hF x0 x1 x2 x3 x4 x5 r0 r1 r2 r3 r4 r5 r6 hE hbel hw hzb hv0
    obtain ⟨hG, hF, hX, hR, hE⟩ := lay_facts hb1' hB1
    obtain ⟨c0, c1, c2, c3, c4, c5, c6⟩ := hG
    obtain ⟨x0, x1, x2, x3, x4, x5⟩ := hX
    obtain ⟨r0, r1, r2, r3, r4, r5, r6⟩ := hR
    go_wp2_with fail
    refine (Q3.out _).mono ?_
    rintro e w2 ⟨rfl, hw⟩
    have hB2 := blk_set hB1 3 (.int .i64 low)
    have hb2' := hb1'.setCell (p := ⟨g, 3, none⟩) HG.out (.int .i64 low)
    have hbel2 := hbel1.setCell (p := ⟨g, 3, none⟩) hbg (.int .i64 low)
    simp only [List.setIfInBounds_toArray, List.set_cons_zero, List.set_cons_succ] at hB2
    rw [hw] at hB2 hb2' hbel2
    replace hB2 : w2.heap[g]? = some (.cells #[.int .u64 v0, .int .i64 cap, .int .i64 tu, .int .i64 low, .int .i64 0, .int .i64 0, .int .i64 0] 24 (0, 0)) := hB2
    clear c0 c1 c2 c3 c4 c5 c6 hF x0 x1 x2 x3 x4 x5 r0 r1 r2 r3 r4 r5 r6 hE hbel1 hw hB1 hb1'
    obtain ⟨hG, hF, hX, hR, hE⟩ := lay_facts hb2' hB2
    obtain ⟨c0, c1, c2, c3, c4, c5, c6⟩ := hG
    obtain ⟨x0, x1, x2, x3, x4, x5⟩ := hX
    obtain ⟨r0, r1, r2, r3, r4, r5, r6⟩ := hR
    go_wp2_with fail
    refine (Q4.out _).mono ?_
    rintro e w3 ⟨rfl, hw⟩
    have hB3 := blk_set hB2 4 (.int .i64 high)
    have hb3' := hb2'.setCell (p := ⟨g, 4, none⟩) HG.out (.int .i64 high)
    have hbel3 := hbel2.setCell (p := ⟨g, 4, none⟩) hbg (.int .i64 high)
    simp only [List.setIfInBounds_toArray, List.set_cons_zero, List.set_cons_succ] at hB3
    rw [hw] at hB3 hb3' hbel3
    replace hB3 : w3.heap[g]? = some (.cells #[.int .u64 v0, .int .i64 cap, .int .i64 tu, .int .i64 low, .int .i64 high, .int .i64 0, .int .i64 0] 24 (0, 0)) := hB3
    clear c0 c1 c2 c3 c4 c5 c6 hF x0 x1 x2 x3 x4 x5 r0 r1 r2 r3 r4 r5 r6 hE hbel2 hw hB2 hb2'
    obtain ⟨hG, hF, hX, hR, hE⟩ := lay_facts hb3' hB3
    obtain ⟨c0, c1, c2, c3, c4, c5, c6⟩ := hG
    obtain ⟨x0, x1, x2, x3, x4, x5⟩ := hX
    obtain ⟨r0, r1, r2, r3, r4, r5, r6⟩ := hR
    go_wp2_with fail
    refine (Q5.out _).mono ?_
    rintro e w4 ⟨rfl, hw⟩
    have hB4 := blk_set hB3 5 (.int .i64 old)
    have hb4' := hb3'.setCell (p := ⟨g, 5, none⟩) HG.out (.int .i64 old)
    have hbel4 := hbel3.setCell (p := ⟨g, 5, none⟩) hbg (.int .i64 old)
    simp only [List.setIfInBounds_toArray, List.set_cons_zero, List.set_cons_succ] at hB4
    rw [hw] at hB4 hb4' hbel4
    replace hB4 : w4.heap[g]? = some (.cells #[.int .u64 v0, .int .i64 cap, .int .i64 tu, .int .i64 low, .int .i64 high, .int .i64 old, .int .i64 0] 24 (0, 0)) := hB4
    clear c0 c1 c2 c3 c4 c5 c6 hF x0 x1 x2 x3 x4 x5 r0 r1 r2 r3 r4 r5 r6 hE hbel3 hw hB3 hb3'
    obtain ⟨hG, hF, hX, hR, hE⟩ := lay_facts hb4' hB4
    obtain ⟨c0, c1, c2, c3, c4, c5, c6⟩ := hG
    obtain ⟨r0, r1, r2, r3, r4, r5, r6⟩ := hR
    have n0' : g ≠ w.heap.size + 1 := by omega
    have n1' : w.heap.size + 1 ≠ g := by omega
    clear hX
    go_wp2
    exact bodyPost_ret (v := .agg #[.int .u64 v0, .int .i64 cap, .int .i64 tu, .int .i64 low, .int .i64 high, .int .i64 old, .int .i64 far]) (by simp [results, Try.results16, go_sem, r0, r1, r2, r3, r4, r5, r6, n0', n1']) rfl
      ⟨by rw [HV0.out], by
        repeat (with_reducible refine Below.setCell ?_ (by first | exact hbg | simp) _)
        exact hbel4⟩
end Go.Proofs.Ytappejihclmjmaa
