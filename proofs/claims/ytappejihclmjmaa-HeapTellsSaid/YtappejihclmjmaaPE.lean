/-
  Contracts of layer 7: Room, Flip, Address of the program. Conditions: integers that fit.
-/
import Derived.Test.YtappejihclmjmaaPD
namespace Go.Proofs.Ytappejihclmjmaa
open Go.RowKit
attribute [local go_sem ↓] Go.wp_at_zero Go.wp_at_succ

theorem RetB.later {v : Value} {W : World} {e : Ending} {w' : World} (h : RetB v W e w') : e = .returned v ∧ ∃ x : Later W, w' = x.w := ⟨h.1, ⟨w', h.2⟩, rfl⟩

theorem right_yes (l : Lay) (w : World) (wf : l.Wf) (h : l.Ok) : Calls Try.prog 20 #[.agg l.cells] w (RetB (.bool true) w) := by
  have := right_any l w wf
  rwa [decide_eq_true h] at this
theorem right_no (l : Lay) (w : World) (wf : l.Wf) (h : ¬ l.Ok) : Calls Try.prog 20 #[.agg l.cells] w (RetB (.bool false) w) := by
  have := right_any l w wf
  rwa [decide_eq_false h] at this

set_option maxHeartbeats 1000000 in
theorem room_any (l : Lay) (w : World) (wf : l.Wf) : Calls Try.prog 22 #[.agg l.cells] w (RetB (.int .i64 (roomL l)) w) := by
  by_cases h : l.Ok
  · have HR := Lib.hid fun W => right_yes l W wf h
    rw [roomL, if_pos h]
    obtain ⟨base, cap, to, low, high, old, far⟩ := l
    obtain ⟨k1, k2, k3, k4, k5, k6, k7, k8, k9, k10, k11⟩ := h
    simp only [Lay.cells] at HR k2 k3 k6 k7 k8 ⊢
    clear wf k1 k4 k5 k9 k10 k11
    go_enter Try.func22, Try.ntmps22
    go_wp2_with fail
    refine (HR.out _).mono ?_
    intro e w1 hr
    obtain ⟨rfl, x, rfl⟩ := hr.later
    go_wp2
    go_ret
    exact ⟨rfl, bl_step (bl_alloc (bl_refl w) _) x.below⟩
  · have HR := Lib.hid fun W => right_no l W wf h
    rw [roomL, if_neg h]
    obtain ⟨base, cap, to, low, high, old, far⟩ := l
    simp only [Lay.cells] at HR ⊢
    clear wf h
    go_enter Try.func22, Try.ntmps22
    go_wp2_with fail
    refine (HR.out _).mono ?_
    intro e w1 hr
    obtain ⟨rfl, x, rfl⟩ := hr.later
    go_wp2
    go_ret
    exact ⟨rfl, bl_step (bl_alloc (bl_refl w) _) x.below⟩

set_option maxHeartbeats 1000000 in
theorem flip_any (l : Lay) (w : World) (wf : l.Wf) : Calls Try.prog 18 #[.agg l.cells] w (RetB (.tuple #[.agg (flipL l).cells, .int .i64 (okE l)]) w) := by
  by_cases h : l.Ok
  · have HR := Lib.hid fun W => right_yes l W wf h
    rw [flipL, okE, if_pos h, if_pos h]
    obtain ⟨base, cap, to, low, high, old, far⟩ := l
    obtain ⟨k1, k2, k3, k4, k5, k6, k7, k8, k9, k10, k11⟩ := h
    simp only [Lay.cells] at HR k5 ⊢
    have k5a : 0 ≤ to := by omega
    have k5b : to ≤ 1 := by omega
    clear wf k1 k4 k5 k9 k10 k11 k2 k3 k6 k7 k8
    go_enter Try.func18, Try.ntmps18
    go_wp2_with fail
    refine (HR.out _).mono ?_
    intro e w1 hr
    obtain ⟨rfl, x, rfl⟩ := hr.later
    go_wp2
    exact bodyPost_ret (v := .tuple #[.agg #[.int .u64 base, .int .i64 cap, .int .i64 (1 - to), .int .i64 0, .int .i64 0, .int .i64 low, .int .i64 high], .int .i64 0]) (by simp [results, Try.results18, go_sem]) rfl
      ⟨rfl, (((((((bl_step (bl_alloc (bl_alloc (bl_refl w) _) _) x.below).setCell (by simp) _).setCell (by simp) _).setCell (by simp) _).setCell (by simp) _).setCell (by simp) _).setCell (by simp) _).setCell (by simp) _⟩
  · have HR := Lib.hid fun W => right_no l W wf h
    rw [flipL, okE, if_neg h, if_neg h]
    obtain ⟨base, cap, to, low, high, old, far⟩ := l
    simp only [Lay.cells] at HR ⊢
    clear wf h
    go_enter Try.func18, Try.ntmps18
    go_wp2_with fail
    refine (HR.out _).mono ?_
    intro e w1 hr
    obtain ⟨rfl, x, rfl⟩ := hr.later
    go_wp2
    exact bodyPost_ret (v := .tuple #[.agg #[.int .u64 0, .int .i64 0, .int .i64 0, .int .i64 0, .int .i64 0, .int .i64 0, .int .i64 0], .int .i64 1]) (by simp [results, Try.results18, go_sem]) rfl
      ⟨rfl, (((((((bl_step (bl_alloc (bl_alloc (bl_refl w) _) _) x.below).setCell (by simp) _).setCell (by simp) _).setCell (by simp) _).setCell (by simp) _).setCell (by simp) _).setCell (by simp) _).setCell (by simp) _⟩
end Go.Proofs.Ytappejihclmjmaa
