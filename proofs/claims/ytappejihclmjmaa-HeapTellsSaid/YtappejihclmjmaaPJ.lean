/-
  Contracts of layer 7: addresses, Address of the document. Conditions: integers that fit.
-/
import Derived.Test.YtappejihclmjmaaPI
namespace Go.Proofs.Ytappejihclmjmaa
open Go.RowKit

set_option maxHeartbeats 2000000 in
theorem addresses_no (l : Lay) (p : Int) (w : World) (hp : p < 1 ∨ 4 < p) (h : l.Ok) :
    Calls Try.prog 45 #[.agg l.cells, .int .i64 p] w (RetB (.tuple #[.int .u64 0, .int .i64 0]) w) := by
  have p1 : (p == 1) = false := beq_eq_false_iff_ne.2 (by omega)
  have p2 : (p == 2) = false := beq_eq_false_iff_ne.2 (by omega)
  have p3 : (p == 3) = false := beq_eq_false_iff_ne.2 (by omega)
  have p4 : (p == 4) = false := beq_eq_false_iff_ne.2 (by omega)
  clear hp
  obtain ⟨base, cap, tu, low, high, old, far⟩ := l
  obtain ⟨k1, k2, k3, k4, k5, k6, k7, k8, k9, k10, k11⟩ := h
  simp only at k1 k2 k3 k4 k5 k6 k7 k8 k9 k10 k11
  show Calls _ _ #[.agg #[.int .u64 base, .int .i64 cap, .int .i64 tu, .int .i64 low, .int .i64 high, .int .i64 old, .int .i64 far], _] w _
  have hbel := bl_alloc (bl_refl w) (.cells #[.int .u64 base, .int .i64 cap, .int .i64 tu, .int .i64 low, .int .i64 high, .int .i64 old, .int .i64 far] 24)
  have k4' : base ≤ 9223372036854775808 - 2 * cap := by omega
  rcases k5 with rfl | rfl
  all_goals
    go_enter Try.func45, Try.ntmps45
    go_wp2
    go_ret2
    exact ⟨rfl, hbel⟩

set_option maxRecDepth 100000 in
set_option maxHeartbeats 2000000 in
theorem raddress_any (l : Lay) (p i : Int) (w : World) (wf : l.Wf) (hp : -9223372036854775808 ≤ p ∧ p ≤ 9223372036854775807) (hi : -9223372036854775808 ≤ i ∧ i ≤ 9223372036854775807) :
    Calls Try.prog 25 #[.agg l.cells, .agg #[.int .i64 p, .int .i64 i]] w (RetB (.tuple #[.int .u64 (adrA l p i), .int .i64 (adrE l p i)]) w) := by
  obtain ⟨hp1, hp2⟩ := hp
  obtain ⟨hi1, hi2⟩ := hi
  by_cases h : l.Ok
  · have HR := Lib.hid fun W => rright_yes l W wf h
    by_cases h1 : p < 1 ∨ 4 < p
    · have HS := Lib.hid fun W => addresses_no l p W h1 h
      rw [adrA, adrE, if_pos h, if_neg (by omega), if_neg (by omega)]
      obtain ⟨base, cap, tu, low, high, old, far⟩ := l
      simp only [Lay.cells] at HR HS ⊢
      clear wf h h1
      have i0 : i < 0 ∨ 0 ≤ i := by omega
      rcases i0 with i1 | i1
      all_goals
        go_enter Try.func25, Try.ntmps25
        go_wp2_with fail
        refine (HR.out _).mono ?_
        intro e w1 hr
        obtain ⟨rfl, x, rfl⟩ := hr.later
        have hz : w.heap.size + 1 + 1 ≤ x.w.heap.size := by have := x.below.size; simp at this; omega
        have hz1 : w.heap.size + 1 < x.w.heap.size := by omega
        have hz0 : w.heap.size < x.w.heap.size := by omega
        go_wp2_with fail
        refine (HS.out _).mono ?_
        intro e w1 hr
        obtain ⟨rfl, x1, rfl⟩ := hr.later
        go_wp2
        go_ret2
        exact ⟨rfl, bl_step (bl_step (bl_alloc (bl_alloc (bl_refl w) _) _) x.below) x1.below⟩
    · have h1 : 1 ≤ p := by omega
      have h2 : p ≤ 4 := by omega
      have HS := Lib.hid fun W => addresses_yes l p W h h1 h2
      have hab := at_b l h p.toNat (by omega) (by omega)
      have e1 : adrE l p i = if 0 ≤ i ∧ i < l.size p.toNat then 0 else 6 := by
        rw [adrE, if_pos h]
        by_cases c : 0 ≤ i ∧ i < l.size p.toNat
        · rw [if_pos c, if_pos ⟨h1, h2, c⟩]
        · rw [if_neg c, if_neg (fun d => c d.2.2)]
      have e2 : adrA l p i = if 0 ≤ i ∧ i < l.size p.toNat then l.at_ p.toNat + i else 0 := by
        rw [adrA]
        by_cases c : 0 ≤ i ∧ i < l.size p.toNat
        · rw [if_pos c, if_pos ⟨h, h1, h2, c⟩]; rfl
        · rw [if_neg c, if_neg (fun d => c d.2.2.2)]
      rw [e1, e2]
      clear e1 e2
      obtain ⟨a, ha⟩ : ∃ a, a = l.at_ p.toNat := ⟨_, rfl⟩
      obtain ⟨n, hn⟩ : ∃ n, n = l.size p.toNat := ⟨_, rfl⟩
      rw [← ha, ← hn] at HS hab ⊢
      obtain ⟨hab1, hab2, hab3, hab4⟩ := hab
      clear ha hn wf h
      obtain ⟨base, cap, tu, low, high, old, far⟩ := l
      simp only [Lay.cells] at HR HS ⊢
      have hi3 : i < 0 ∨ (0 ≤ i ∧ n ≤ i) ∨ (0 ≤ i ∧ i < n) := by omega
      rcases hi3 with i1 | ⟨i1, i2⟩ | ⟨i1, i2⟩
      all_goals
        first
        | rw [if_pos (by omega), if_pos (by omega)]
        | rw [if_neg (by omega), if_neg (by omega)]
        go_enter Try.func25, Try.ntmps25
        go_wp2_with fail
        refine (HR.out _).mono ?_
        intro e w1 hr
        obtain ⟨rfl, x, rfl⟩ := hr.later
        have hz : w.heap.size + 1 + 1 ≤ x.w.heap.size := by have := x.below.size; simp at this; omega
        have hz1 : w.heap.size + 1 < x.w.heap.size := by omega
        have hz0 : w.heap.size < x.w.heap.size := by omega
        go_wp2_with fail
        refine (HS.out _).mono ?_
        intro e w1 hr
        obtain ⟨rfl, x1, rfl⟩ := hr.later
        go_wp2
        go_ret2
        exact ⟨rfl, bl_step (bl_step (bl_alloc (bl_alloc (bl_refl w) _) _) x.below) x1.below⟩
  · have HR := Lib.hid fun W => rright_no l W wf h
    rw [adrA, adrE, if_neg h, if_neg (fun x => h x.1)]
    obtain ⟨base, cap, tu, low, high, old, far⟩ := l
    simp only [Lay.cells] at HR ⊢
    clear wf h
    go_enter Try.func25, Try.ntmps25
    go_wp2_with fail
    refine (HR.out _).mono ?_
    intro e w1 hr
    obtain ⟨rfl, x, rfl⟩ := hr.later
    go_wp2
    go_ret2
    exact ⟨rfl, bl_step (bl_alloc (bl_alloc (bl_refl w) _) _) x.below⟩
end Go.Proofs.Ytappejihclmjmaa
