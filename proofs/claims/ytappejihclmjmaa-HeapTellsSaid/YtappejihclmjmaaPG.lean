/-
  Contracts of layer 7: Address of the program. Conditions: integers that fit.
-/
import Derived.Test.YtappejihclmjmaaPE
import Derived.Test.YtappejihclmjmaaGrow
import Derived.Deep.DeepCutAuto
namespace Go.Proofs.Ytappejihclmjmaa
open Go.RowKit
attribute [local go_sem ↓] Go.wp_at_zero Go.wp_at_succ

theorem grown_retB {W : World} {C : World → Prop} [G : Growing W C] {P : Program} {f : FuncId} {args : Array Value} {x : Grown W C} {v : Value} (h : Calls P f args x.w (RetB v x.w)) :
    Calls P f args x.w fun e w'' => e = .returned v ∧ ∃ y : Grown W C, w'' = y.w := grown_of h

theorem spans_index (l : Lay) (p : Int) (h1 : 1 ≤ p) (h4 : p ≤ 4) (W : World) : (Instr.index 73 (.agg l.spans) (.int .i64 (p - 1))).run Try.prog W = .ok (.agg #[.int .u64 (l.at_ p.toNat), .int .i64 (l.size p.toNat)]) W := by
  obtain rfl | rfl | rfl | rfl : p = 1 ∨ p = 2 ∨ p = 3 ∨ p = 4 := by omega
  · rfl
  · rfl
  · rfl
  · rfl

theorem at_b (l : Lay) (h : l.Ok) (p : Nat) (hp : 1 ≤ p) (hp4 : p ≤ 4) : 1 ≤ l.at_ p ∧ l.at_ p + l.size p ≤ 9223372036854775808 ∧ 0 ≤ l.size p ∧ l.size p ≤ 4096 := by
  have h1 := off_in l h p hp hp4
  unfold Lay.Ok at h
  unfold Lay.at_
  omega

set_option maxRecDepth 100000 in
set_option maxHeartbeats 1000000 in
theorem address_any (l : Lay) (p i : Int) (w : World) (wf : l.Wf) (hp : -9223372036854775808 ≤ p ∧ p ≤ 9223372036854775807) (hi : -9223372036854775808 ≤ i ∧ i ≤ 9223372036854775807) :
    Calls Try.prog 24 #[.agg l.cells, .agg #[.int .i64 p, .int .i64 i]] w (RetB (.tuple #[.int .u64 (adrA l p i), .int .i64 (adrE l p i)]) w) := by
  obtain ⟨hp1, hp2⟩ := hp
  obtain ⟨hi1, hi2⟩ := hi
  by_cases h : l.Ok
  · have HR := Lib.hid fun W => right_yes l W wf h
    have HS := Lib.hid fun W => spans_any l W h
    by_cases h1 : p < 1
    · rw [adrA, adrE, if_pos h, if_neg (by omega), if_neg (by omega)]
      obtain ⟨base, cap, tu, low, high, old, far⟩ := l
      simp only [Lay.cells] at HR ⊢
      clear wf h HS
      go_enter Try.func24, Try.ntmps24
      go_wp2_with fail
      refine (HR.out _).mono ?_
      intro e w1 hr
      obtain ⟨rfl, x, rfl⟩ := hr.later
      go_wp2
      go_ret2
      exact ⟨rfl, bl_step (bl_alloc (bl_alloc (bl_refl w) _) _) x.below⟩
    have h1 : 1 ≤ p := by omega
    by_cases h2 : 4 < p
    · rw [adrA, adrE, if_pos h, if_neg (by omega), if_neg (by omega)]
      obtain ⟨base, cap, tu, low, high, old, far⟩ := l
      simp only [Lay.cells] at HR ⊢
      clear wf h HS
      go_enter Try.func24, Try.ntmps24
      go_wp2_with fail
      refine (HR.out _).mono ?_
      intro e w1 hr
      obtain ⟨rfl, x, rfl⟩ := hr.later
      go_wp2
      go_ret2
      exact ⟨rfl, bl_step (bl_alloc (bl_alloc (bl_refl w) _) _) x.below⟩
    have h2 : p ≤ 4 := by omega
    have hix := fun W => spans_index l p h1 h2 W
    have hab := at_b l h p.toNat (by omega) (by omega)
    have e1 : adrE l p i = if 0 ≤ i ∧ i < l.size p.toNat then 0 else 6 := by
      rw [adrE, if_pos h]
      by_cases c : 0 ≤ i ∧ i < l.size p.toNat
      · rw [if_pos c, if_pos ⟨h1, h2, c⟩]
      · rw [if_neg c, if_neg (fun d => c d.2.2)]
    have e2 : adrA l p i = if 0 ≤ i ∧ i < l.size p.toNat then l.at_ p.toNat + i else 0 := by
      rw [adrA]
      by_cases c : 0 ≤ i ∧ i < l.size p.toNat
      · rw [if_pos c, if_pos ⟨h, h1, h2, c⟩]; rfl
      · rw [if_neg c, if_neg (fun d => c d.2.2.2)]
    rw [e1, e2]
    clear e1 e2
    obtain ⟨a, ha⟩ : ∃ a, a = l.at_ p.toNat := ⟨_, rfl⟩
    obtain ⟨n, hn⟩ : ∃ n, n = l.size p.toNat := ⟨_, rfl⟩
    rw [← ha, ← hn] at hix hab ⊢
    obtain ⟨hab1, hab2, hab3, hab4⟩ := hab
    clear ha hn wf h
    obtain ⟨sp, hsp⟩ : ∃ sp, sp = l.spans := ⟨_, rfl⟩
    rw [← hsp] at hix
    obtain ⟨base, cap, tu, low, high, old, far⟩ := l
    simp only [Lay.cells] at HR HS ⊢
    rw [← hsp] at HS
    clear hsp
    have hi3 : i < 0 ∨ (0 ≤ i ∧ n ≤ i) ∨ (0 ≤ i ∧ i < n) := by omega
    rcases hi3 with i1 | ⟨i1, i2⟩ | ⟨i1, i2⟩
    all_goals
      first
      | rw [if_pos (by omega), if_pos (by omega)]
      | rw [if_neg (by omega), if_neg (by omega)]
    all_goals
      go_enter Try.func24, Try.ntmps24
      go_wp2_with fail
      refine (HR.out _).mono ?_
      intro e w1 hr
      obtain ⟨rfl, x, rfl⟩ := hr.later
      go_wp2_with fail
      have hz : w.heap.size + 1 + 1 ≤ x.w.heap.size := by have := x.below.size; simp at this; omega
      have hz0 : w.heap.size < x.w.heap.size := by omega
      have hz1 : w.heap.size + 1 < x.w.heap.size := by omega
      have hwr : IntKind.i64.wrap (p - 1) = p - 1 := IntWalk.i64_in _ (by omega)
      refine wp_region_alloc 6 40 _ (some 6) (.cells #[.int .u64 0, .int .i64 0] 72) ?fin (by kernel_rfl) (by kernel_rfl) rfl rfl rfl (fun _ _ => rfl) rfl (by kernel_rfl) ?head ?tail
      case head =>
        intro C G
        simp only [List.take_succ_cons, List.take_zero]
        repeat (go_big_quiet_step ((with_reducible exact grown_retB (HS.out _))))
        refine wpQuiet_nil ?_
        exact rfl
      case tail =>
        intro b y hb hzb
        simp only [List.drop_succ_cons, List.drop_zero]
        have hc0 := blk_cell hzb 0
        have hc1 := blk_cell hzb 1
        have hf0 := blk_frozen hzb 0
        have hf1 := blk_frozen hzb 1
        simp only [List.getElem?_toArray, List.getElem?_cons_zero, List.getElem?_cons_succ] at hc0 hc1
        have hn0 : b ≠ w.heap.size := by omega
        have hn1 : b ≠ w.heap.size + 1 := by omega
        have hbel : Below w.heap.size w y.w := bl_step (bl_step (bl_alloc (bl_alloc (bl_refl w) _) _) x.below) y.below
        have hbw : w.heap.size ≤ b := by omega
        clear hzb hz
        go_wp2
        go_ret2
        exact ⟨rfl, (hbel.setCell hbw _).setCell hbw _⟩
  · have HR := Lib.hid fun W => right_no l W wf h
    rw [adrA, adrE, if_neg h, if_neg (fun x => h x.1)]
    obtain ⟨base, cap, tu, low, high, old, far⟩ := l
    simp only [Lay.cells] at HR ⊢
    clear wf h
    go_enter Try.func24, Try.ntmps24
    go_wp2_with fail
    refine (HR.out _).mono ?_
    intro e w1 hr
    obtain ⟨rfl, x, rfl⟩ := hr.later
    go_wp2
    go_ret2
    exact ⟨rfl, bl_step (bl_alloc (bl_alloc (bl_refl w) _) _) x.below⟩
end Go.Proofs.Ytappejihclmjmaa
