/-
  The laws' own helper for layer 7: awake. No condition.
-/
import Derived.Test.YtappejihclmjmaaPL
namespace Go.Proofs.Ytappejihclmjmaa
open Go.RowKit
attribute [local go_sem ↓] Go.wp_at_zero Go.wp_at_succ

/-- A layout lies in block g. -/
def LayAt (w : World) (g : Nat) (l : Lay) : Prop :=
  w.cell? ⟨g, 0, none⟩ = some (.int .u64 l.base) ∧ w.cell? ⟨g, 1, none⟩ = some (.int .i64 l.cap) ∧ w.cell? ⟨g, 2, none⟩ = some (.int .i64 l.to) ∧ w.cell? ⟨g, 3, none⟩ = some (.int .i64 l.low) ∧
  w.cell? ⟨g, 4, none⟩ = some (.int .i64 l.high) ∧ w.cell? ⟨g, 5, none⟩ = some (.int .i64 l.old) ∧ w.cell? ⟨g, 6, none⟩ = some (.int .i64 l.far)
theorem LayAt.below {w w' : World} {g : Nat} {l : Lay} (h : LayAt w g l) (hb : Below w.heap.size w w') : LayAt w' g l := by
  obtain ⟨c0, c1, c2, c3, c4, c5, c6⟩ := h
  have hg : g < w.heap.size := World.block_lt_of_cell? w _ c0
  exact ⟨(below_cell hb g 0 hg).trans c0, (below_cell hb g 1 hg).trans c1, (below_cell hb g 2 hg).trans c2, (below_cell hb g 3 hg).trans c3, (below_cell hb g 4 hg).trans c4, (below_cell hb g 5 hg).trans c5, (below_cell hb g 6 hg).trans c6⟩
theorem LayAt.lit (w : World) (l : Lay) (t : TypeId) : LayAt (w.alloc (.cells l.cells t)) w.heap.size l := by
  refine ⟨?_, ?_, ?_, ?_, ?_, ?_, ?_⟩ <;> (rw [cell_of_row _ _ _ _ _ _ (heap_alloc_new w _)]; rfl)
theorem LayAt.alloc {w : World} {g : Nat} {l : Lay} (h : LayAt w g l) (o : Obj) : LayAt (w.alloc o) g l := h.below (bl_alloc (bl_refl w) o)
/-- Two numbers lie in block g. -/
def TwoAt (w : World) (g : Nat) (a b : Value) : Prop := w.cell? ⟨g, 0, none⟩ = some a ∧ w.cell? ⟨g, 1, none⟩ = some b
theorem TwoAt.below {w w' : World} {g : Nat} {a b : Value} (h : TwoAt w g a b) (hb : Below w.heap.size w w') : TwoAt w' g a b := by
  obtain ⟨c0, c1⟩ := h
  have hg : g < w.heap.size := World.block_lt_of_cell? w _ c0
  exact ⟨(below_cell hb g 0 hg).trans c0, (below_cell hb g 1 hg).trans c1⟩
theorem TwoAt.alloc {w : World} {g : Nat} {a b : Value} (h : TwoAt w g a b) (o : Obj) : TwoAt (w.alloc o) g a b := h.below (bl_alloc (bl_refl w) o)
theorem TwoAt.lit (w : World) (a b : Value) (t : TypeId) : TwoAt (w.alloc (.cells #[a, b] t)) w.heap.size a b := by
  refine ⟨?_, ?_⟩ <;> (rw [cell_of_row _ _ _ _ _ _ (heap_alloc_new w _)]; rfl)

theorem RetB.both {v : Value} {W : World} {e : Ending} {w' : World} (h : RetB v W e w') : e = .returned v ∧ Below W.heap.size W w' := h

def l0 : Lay := ⟨10, 5, 1, 2, 1, 0, 0⟩
def lz : Lay := ⟨0, 0, 0, 0, 0, 0, 0⟩
theorem l0_ok : l0.Ok := by simp [Lay.Ok, l0]
theorem lz_no : ¬ lz.Ok := fun h => by have := h.1; simp [lz] at this
theorem lz_wf : lz.Wf := by simp [Lay.Wf, lz]

theorem aw_1 (W : World) : Calls Try.prog 24 #[.agg #[.int .u64 10, .int .i64 5, .int .i64 1, .int .i64 2, .int .i64 1, .int .i64 0, .int .i64 0], .agg #[.int .i64 2, .int .i64 0]] W (RetB (.tuple #[.int .u64 19, .int .i64 0]) W) := by
  have h := address_any l0 2 0 W (ok_wf l0_ok) (by omega) (by omega)
  rw [show adrA l0 2 0 = 19 by simp [adrA, l0_ok]; simp [l0, Lay.off, Lay.size], show adrE l0 2 0 = 0 by simp [adrE, l0_ok]; simp [l0, Lay.size]] at h
  exact h
theorem aw_2 (W : World) : Calls Try.prog 26 #[.agg #[.int .u64 10, .int .i64 5, .int .i64 1, .int .i64 2, .int .i64 1, .int .i64 0, .int .i64 0], .int .u64 16] W (RetB (.tuple #[.agg #[.int .i64 1, .int .i64 1], .int .i64 0]) W) := by
  have h := find_any l0 16 W (ok_wf l0_ok) (by omega) (by omega)
  have k : fndK l0 16 = 1 := fndK_of l0 l0_ok 1 (by omega) (by omega) 16 (by unfold Lay.has l0; simp [Lay.off, Lay.size])
  rw [show fndV l0 16 = .tuple #[.agg #[.int .i64 1, .int .i64 1], .int .i64 0] by simp [fndV, fndP, fndI, fndE, l0_ok, k]; simp [l0, Lay.off]] at h
  exact h
theorem aw_3 (W : World) : Calls Try.prog 26 #[.agg #[.int .u64 10, .int .i64 5, .int .i64 1, .int .i64 2, .int .i64 1, .int .i64 0, .int .i64 0], .int .u64 17] W (RetB (.tuple #[.agg #[.int .i64 0, .int .i64 0], .int .i64 6]) W) := by
  have h := find_any l0 17 W (ok_wf l0_ok) (by omega) (by omega)
  have k : fndK l0 17 = 0 := by simp [fndK, Lay.has, l0, Lay.off, Lay.size]
  rw [show fndV l0 17 = .tuple #[.agg #[.int .i64 0, .int .i64 0], .int .i64 6] by simp [fndV, fndP, fndI, fndE, l0_ok, k]] at h
  exact h
theorem aw_4 (W : World) : Calls Try.prog 24 #[.agg #[.int .u64 10, .int .i64 5, .int .i64 1, .int .i64 2, .int .i64 1, .int .i64 0, .int .i64 0], .agg #[.int .i64 1, .int .i64 2]] W (RetB (.tuple #[.int .u64 0, .int .i64 6]) W) := by
  have h := address_any l0 1 2 W (ok_wf l0_ok) (by omega) (by omega)
  rw [show adrA l0 1 2 = 0 by simp [adrA, l0_ok]; simp [l0, Lay.size], show adrE l0 1 2 = 6 by simp [adrE, l0_ok]; simp [l0, Lay.size]] at h
  exact h
theorem aw_5 (W : World) : Calls Try.prog 18 #[.agg #[.int .u64 10, .int .i64 5, .int .i64 1, .int .i64 2, .int .i64 1, .int .i64 0, .int .i64 0]] W (RetB (.tuple #[.agg #[.int .u64 10, .int .i64 5, .int .i64 0, .int .i64 0, .int .i64 0, .int .i64 2, .int .i64 1], .int .i64 0]) W) := by
  have h := flip_any l0 W (ok_wf l0_ok)
  rw [flipL, okE, if_pos l0_ok, if_pos l0_ok] at h
  exact h
theorem aw_6 (W : World) : Calls Try.prog 18 #[.agg #[.int .u64 0, .int .i64 0, .int .i64 0, .int .i64 0, .int .i64 0, .int .i64 0, .int .i64 0]] W (RetB (.tuple #[.agg #[.int .u64 0, .int .i64 0, .int .i64 0, .int .i64 0, .int .i64 0, .int .i64 0, .int .i64 0], .int .i64 1]) W) := by
  have h := flip_any lz W lz_wf
  rw [flipL, okE, if_neg lz_no, if_neg lz_no] at h
  exact h
theorem aw_7 (W : World) : Calls Try.prog 20 #[.agg #[.int .u64 10, .int .i64 5, .int .i64 1, .int .i64 2, .int .i64 1, .int .i64 0, .int .i64 0]] W (RetB (.bool true) W) := right_yes l0 W (ok_wf l0_ok) l0_ok
theorem aw_8 (W : World) : Calls Try.prog 22 #[.agg #[.int .u64 10, .int .i64 5, .int .i64 1, .int .i64 2, .int .i64 1, .int .i64 0, .int .i64 0]] W (RetB (.int .i64 2) W) := by
  have h := room_any l0 W (ok_wf l0_ok)
  rw [roomL, if_pos l0_ok] at h
  exact h
theorem aw_9 (W : World) : Calls Try.prog 20 #[.agg #[.int .u64 0, .int .i64 0, .int .i64 0, .int .i64 0, .int .i64 0, .int .i64 0, .int .i64 0]] W (RetB (.bool false) W) := right_no lz W lz_wf lz_no

set_option maxRecDepth 100000 in
set_option maxHeartbeats 2000000 in
theorem awake7_any (w : World) : Calls Try.prog 15 #[] w (RetTrue w) := by
  go_enter Try.func15, Try.ntmps15
  go_wp2_with fail
  have hl := LayAt.lit w l0 24
  have hb : Below w.heap.size w (w.alloc (.cells l0.cells 24)) := bl_alloc (bl_refl w) _
  refine (aw_1 _).mono ?_
  intro e w1 hr
  obtain ⟨rfl, hb1⟩ := RetB.both hr
  replace hb1 : Below (w.alloc (.cells l0.cells 24)).heap.size (w.alloc (.cells l0.cells 24)) w1 := hb1
  have hl1 := hl.below hb1
  have hbb1 := bl_step hb hb1
  obtain ⟨c0, c1, c2, c3, c4, c5, c6⟩ := id hl1
  simp only [l0] at c0 c1 c2 c3 c4 c5 c6
  clear hl hb hb1 hr
  go_wp2_with fail
  clear c0 c1 c2 c3 c4 c5 c6
  refine (aw_2 _).mono ?_
  intro e w2 hr
  obtain ⟨rfl, hb2⟩ := RetB.both hr
  have hl2 := hl1.below hb2
  have hbb2 := bl_step hbb1 hb2
  obtain ⟨c0, c1, c2, c3, c4, c5, c6⟩ := id hl2
  simp only [l0] at c0 c1 c2 c3 c4 c5 c6
  have hp2 := TwoAt.lit w2 (.int .i64 1) (.int .i64 1) 27
  have hz2 := World.block_lt_of_cell? w2 _ c0
  clear hb2 hr hl1 hbb1
  go_wp2_with fail
  clear c0 c1 c2 c3 c4 c5 c6 hz2
  refine (aw_3 _).mono ?_
  intro e w3 hr
  obtain ⟨rfl, hb3⟩ := RetB.both hr
  have hl3 := (hl2.alloc _).below hb3
  have hp3 := hp2.below hb3
  have hbb3 := bl_step (bl_alloc hbb2 _) hb3
  obtain ⟨c0, c1, c2, c3, c4, c5, c6⟩ := id hl3
  simp only [l0] at c0 c1 c2 c3 c4 c5 c6
  have hz3 := World.block_lt_of_cell? w3 _ c0
  clear hb3 hr hl2 hbb2 hp2
  go_wp2_with fail
  clear c0 c1 c2 c3 c4 c5 c6 hz3
  refine (aw_4 _).mono ?_
  intro e w4 hr
  obtain ⟨rfl, hb4⟩ := RetB.both hr
  have hl4 := (hl3.alloc _).below hb4
  have hp4 := (hp3.alloc _).below hb4
  have hbb4 := bl_step (bl_alloc hbb3 _) hb4
  obtain ⟨c0, c1, c2, c3, c4, c5, c6⟩ := id hl4
  simp only [l0] at c0 c1 c2 c3 c4 c5 c6
  clear hb4 hr hl3 hbb3 hp3
  go_wp2_with fail
  clear c0 c1 c2 c3 c4 c5 c6
  refine (aw_5 _).mono ?_
  intro e w5 hr
  obtain ⟨rfl, hb5⟩ := RetB.both hr
  have hl5 := hl4.below hb5
  have hp5 := hp4.below hb5
  have hbb5 := bl_step hbb4 hb5
  have hf5 := LayAt.lit w5 ⟨10, 5, 0, 0, 0, 2, 1⟩ 24
  clear hb5 hr hl4 hbb4 hp4
  go_wp2_with fail
  refine (aw_6 _).mono ?_
  intro e w6 hr
  obtain ⟨rfl, hb6⟩ := RetB.both hr
  have hl6 := (hl5.alloc _).below hb6
  have hp6 := (hp5.alloc _).below hb6
  have hf6 := hf5.below hb6
  have hbb6 := bl_step (bl_alloc hbb5 _) hb6
  obtain ⟨c0, c1, c2, c3, c4, c5, c6⟩ := id hl6
  obtain ⟨p0, p1⟩ := id hp6
  obtain ⟨d0, d1, d2, d3, d4, d5, d6⟩ := id hf6
  simp only [l0] at c0 c1 c2 c3 c4 c5 c6 d0 d1 d2 d3 d4 d5 d6
  have hz6 := World.block_lt_of_cell? w6 _ c0
  have hy6 := World.block_lt_of_cell? w6 _ p0
  have hx6 := World.block_lt_of_cell? w6 _ d0
  clear hb6 hr hl5 hbb5 hp5 hf5
  go_wp2_with fail
  clear c0 c1 c2 c3 c4 c5 c6 p0 p1 d0 d1 d2 d3 d4 d5 d6 hz6 hy6 hx6 hf6 hp6
  refine (aw_7 _).mono ?_
  intro e w7 hr
  obtain ⟨rfl, hb7⟩ := RetB.both hr
  have hl7 := (hl6.alloc _).below hb7
  have hbb7 := bl_step (bl_alloc hbb6 _) hb7
  obtain ⟨c0, c1, c2, c3, c4, c5, c6⟩ := id hl7
  simp only [l0] at c0 c1 c2 c3 c4 c5 c6
  clear hb7 hr hl6 hbb6
  go_wp2_with fail
  clear c0 c1 c2 c3 c4 c5 c6
  refine (aw_8 _).mono ?_
  intro e w8 hr
  obtain ⟨rfl, hb8⟩ := RetB.both hr
  have hbb8 := bl_step hbb7 hb8
  clear hb8 hr hl7 hbb7
  go_wp2_with fail
  refine (aw_9 _).mono ?_
  intro e w9 hr
  obtain ⟨rfl, hb9⟩ := RetB.both hr
  have hbb9 := bl_step hbb8 hb9
  clear hb9 hr hbb8
  go_wp2
  go_ret
  exact ⟨rfl, hbb9⟩
end Go.Proofs.Ytappejihclmjmaa
