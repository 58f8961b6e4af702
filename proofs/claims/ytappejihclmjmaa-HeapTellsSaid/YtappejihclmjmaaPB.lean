/-
  Contracts of layer 7: Right of the program and of the document. Conditions: integers that fit.
-/
import Derived.Test.YtappejihclmjmaaPA
namespace Go.Proofs.Ytappejihclmjmaa
open Go.RowKit

set_option maxHeartbeats 1000000 in
theorem right_any (l : Lay) (w : World) (wf : l.Wf) : Calls Try.prog 20 #[.agg l.cells] w (RetB (.bool (decide l.Ok)) w) := by
  obtain ⟨base, cap, to, low, high, old, far⟩ := l
  obtain ⟨⟨hb1, hb2⟩, ⟨hc1, hc2⟩, ⟨ht1, ht2⟩, hlw, hhg, hod, hfr⟩ := wf
  simp only at hb1 hb2 hc1 hc2 ht1 ht2 hlw hhg hod hfr
  show Calls _ _ #[.agg #[.int .u64 base, .int .i64 cap, .int .i64 to, .int .i64 low, .int .i64 high, .int .i64 old, .int .i64 far]] w _
  have hbel := bl_alloc (bl_refl w) (.cells #[.int .u64 base, .int .i64 cap, .int .i64 to, .int .i64 low, .int .i64 high, .int .i64 old, .int .i64 far] 24)
  by_cases k1 : cap < 0
  · rw [show decide (Lay.Ok ⟨base, cap, to, low, high, old, far⟩) = false from decide_eq_false (by unfold Lay.Ok; simp only; omega)]
    go_enter Try.func20, Try.ntmps20
    go_wp2
    go_ret
    exact ⟨rfl, hbel⟩
  have k1 : 0 ≤ cap := by omega
  by_cases k2 : 4096 < cap
  · rw [show decide (Lay.Ok ⟨base, cap, to, low, high, old, far⟩) = false from decide_eq_false (by unfold Lay.Ok; simp only; omega)]
    go_enter Try.func20, Try.ntmps20
    go_wp2
    go_ret
    exact ⟨rfl, hbel⟩
  have k2 : cap ≤ 4096 := by omega
  by_cases k3 : base < 1
  · rw [show decide (Lay.Ok ⟨base, cap, to, low, high, old, far⟩) = false from decide_eq_false (by unfold Lay.Ok; simp only; omega)]
    go_enter Try.func20, Try.ntmps20
    go_wp2
    go_ret
    exact ⟨rfl, hbel⟩
  have k3 : 1 ≤ base := by omega
  by_cases k4 : 9223372036854775808 - 2 * cap < base
  · rw [show decide (Lay.Ok ⟨base, cap, to, low, high, old, far⟩) = false from decide_eq_false (by unfold Lay.Ok; simp only; omega)]
    go_enter Try.func20, Try.ntmps20
    go_wp2
    go_ret
    exact ⟨rfl, hbel⟩
  have k4 : base ≤ 9223372036854775808 - 2 * cap := by omega
  have H1 := Lib.hid fun W => within_any low high cap W hlw hhg k1 k2
  have H2 := Lib.hid fun W => within_any old far cap W hod hfr k1 k2
  by_cases k5 : to = 0 ∨ to = 1
  · have e : decide (Lay.Ok ⟨base, cap, to, low, high, old, far⟩) = (withinB low high cap && withinB old far cap) := by
      unfold withinB
      rw [← Bool.decide_and]
      refine decide_eq_decide.2 ?_
      unfold Lay.Ok
      simp only
      omega
    rw [e]
    clear e
    revert H1 H2
    generalize withinB low high cap = p
    generalize withinB old far cap = q
    intro H1 H2
    clear hb1 hb2 hc1 hc2 ht1 ht2 hlw hhg hod hfr
    rcases k5 with rfl | rfl
    all_goals
      go_enter Try.func20, Try.ntmps20
      go_wp2_with fail
      refine (H1.out _).mono ?_
      rintro e w' ⟨rfl, rfl⟩
      cases p
      · go_wp2
        go_ret
        exact ⟨rfl, hbel⟩
      · go_wp2_with fail
        refine (H2.out _).mono ?_
        rintro e w' ⟨rfl, rfl⟩
        go_wp2
        go_ret
        exact ⟨by simp, hbel⟩
  · rw [show decide (Lay.Ok ⟨base, cap, to, low, high, old, far⟩) = false from decide_eq_false (by unfold Lay.Ok; simp only; omega)]
    have k6 : (to == 0) = false := beq_eq_false_iff_ne.2 (by omega)
    have k7 : (to == 1) = false := beq_eq_false_iff_ne.2 (by omega)
    go_enter Try.func20, Try.ntmps20
    go_wp2
    go_ret
    exact ⟨rfl, hbel⟩

set_option maxHeartbeats 2000000 in
theorem rright_any (l : Lay) (w : World) (wf : l.Wf) : Calls Try.prog 21 #[.agg l.cells] w (RetB (.bool (decide l.Ok)) w) := by
  obtain ⟨base, cap, to, low, high, old, far⟩ := l
  obtain ⟨⟨hb1, hb2⟩, ⟨hc1, hc2⟩, ⟨ht1, ht2⟩, ⟨hl1, hl2⟩, ⟨hh1, hh2⟩, ⟨ho1, ho2⟩, ⟨hf1, hf2⟩⟩ := wf
  simp only at hb1 hb2 hc1 hc2 ht1 ht2 hl1 hl2 hh1 hh2 ho1 ho2 hf1 hf2
  show Calls _ _ #[.agg #[.int .u64 base, .int .i64 cap, .int .i64 to, .int .i64 low, .int .i64 high, .int .i64 old, .int .i64 far]] w _
  have hbel := bl_alloc (bl_refl w) (.cells #[.int .u64 base, .int .i64 cap, .int .i64 to, .int .i64 low, .int .i64 high, .int .i64 old, .int .i64 far] 24)
  by_cases k1 : base < 1
  · rw [show decide (Lay.Ok ⟨base, cap, to, low, high, old, far⟩) = false from decide_eq_false (by unfold Lay.Ok; simp only; omega)]
    go_enter Try.func21, Try.ntmps21
    go_wp2
    go_ret
    exact ⟨rfl, hbel⟩
  have k1 : 1 ≤ base := by omega
  by_cases k2 : cap < 0
  · rw [show decide (Lay.Ok ⟨base, cap, to, low, high, old, far⟩) = false from decide_eq_false (by unfold Lay.Ok; simp only; omega)]
    go_enter Try.func21, Try.ntmps21
    go_wp2
    go_ret
    exact ⟨rfl, hbel⟩
  have k2 : 0 ≤ cap := by omega
  by_cases k3 : 4096 < cap
  · rw [show decide (Lay.Ok ⟨base, cap, to, low, high, old, far⟩) = false from decide_eq_false (by unfold Lay.Ok; simp only; omega)]
    go_enter Try.func21, Try.ntmps21
    go_wp2
    go_ret
    exact ⟨rfl, hbel⟩
  have k3 : cap ≤ 4096 := by omega
  by_cases k4 : 9223372036854775808 - 2 * cap < base
  · rw [show decide (Lay.Ok ⟨base, cap, to, low, high, old, far⟩) = false from decide_eq_false (by unfold Lay.Ok; simp only; omega)]
    go_enter Try.func21, Try.ntmps21
    go_wp2
    go_ret
    exact ⟨rfl, hbel⟩
  have k4 : base ≤ 9223372036854775808 - 2 * cap := by omega
  by_cases k5 : to < 0
  · rw [show decide (Lay.Ok ⟨base, cap, to, low, high, old, far⟩) = false from decide_eq_false (by unfold Lay.Ok; simp only; omega)]
    go_enter Try.func21, Try.ntmps21
    go_wp2
    go_ret
    exact ⟨rfl, hbel⟩
  have k5 : 0 ≤ to := by omega
  by_cases k6 : 1 < to
  · rw [show decide (Lay.Ok ⟨base, cap, to, low, high, old, far⟩) = false from decide_eq_false (by unfold Lay.Ok; simp only; omega)]
    go_enter Try.func21, Try.ntmps21
    go_wp2
    go_ret
    exact ⟨rfl, hbel⟩
  have k6 : to ≤ 1 := by omega
  by_cases k7 : low < 0
  · rw [show decide (Lay.Ok ⟨base, cap, to, low, high, old, far⟩) = false from decide_eq_false (by unfold Lay.Ok; simp only; omega)]
    go_enter Try.func21, Try.ntmps21
    go_wp2
    go_ret
    exact ⟨rfl, hbel⟩
  have k7 : 0 ≤ low := by omega
  by_cases k8 : high < 0
  · rw [show decide (Lay.Ok ⟨base, cap, to, low, high, old, far⟩) = false from decide_eq_false (by unfold Lay.Ok; simp only; omega)]
    go_enter Try.func21, Try.ntmps21
    go_wp2
    go_ret
    exact ⟨rfl, hbel⟩
  have k8 : 0 ≤ high := by omega
  by_cases k9 : old < 0
  · rw [show decide (Lay.Ok ⟨base, cap, to, low, high, old, far⟩) = false from decide_eq_false (by unfold Lay.Ok; simp only; omega)]
    go_enter Try.func21, Try.ntmps21
    go_wp2
    go_ret
    exact ⟨rfl, hbel⟩
  have k9 : 0 ≤ old := by omega
  by_cases k10 : far < 0
  · rw [show decide (Lay.Ok ⟨base, cap, to, low, high, old, far⟩) = false from decide_eq_false (by unfold Lay.Ok; simp only; omega)]
    go_enter Try.func21, Try.ntmps21
    go_wp2
    go_ret
    exact ⟨rfl, hbel⟩
  have k10 : 0 ≤ far := by omega
  by_cases k11 : cap < low
  · rw [show decide (Lay.Ok ⟨base, cap, to, low, high, old, far⟩) = false from decide_eq_false (by unfold Lay.Ok; simp only; omega)]
    go_enter Try.func21, Try.ntmps21
    go_wp2
    go_ret
    exact ⟨rfl, hbel⟩
  have k11 : low ≤ cap := by omega
  by_cases k12 : cap - low < high
  · rw [show decide (Lay.Ok ⟨base, cap, to, low, high, old, far⟩) = false from decide_eq_false (by unfold Lay.Ok; simp only; omega)]
    go_enter Try.func21, Try.ntmps21
    go_wp2
    go_ret
    exact ⟨rfl, hbel⟩
  have k12 : high ≤ cap - low := by omega
  by_cases k13 : cap < old
  · rw [show decide (Lay.Ok ⟨base, cap, to, low, high, old, far⟩) = false from decide_eq_false (by unfold Lay.Ok; simp only; omega)]
    go_enter Try.func21, Try.ntmps21
    go_wp2
    go_ret
    exact ⟨rfl, hbel⟩
  have k13 : old ≤ cap := by omega
  by_cases k14 : cap - old < far
  · rw [show decide (Lay.Ok ⟨base, cap, to, low, high, old, far⟩) = false from decide_eq_false (by unfold Lay.Ok; simp only; omega)]
    go_enter Try.func21, Try.ntmps21
    go_wp2
    go_ret
    exact ⟨by simp; omega, hbel⟩
  have k14 : far ≤ cap - old := by omega
  rw [show decide (Lay.Ok ⟨base, cap, to, low, high, old, far⟩) = true from decide_eq_true (by unfold Lay.Ok; simp only; omega)]
  go_enter Try.func21, Try.ntmps21
  go_wp2
  go_ret
  exact ⟨rfl, hbel⟩
end Go.Proofs.Ytappejihclmjmaa
