/-
  The walks of the laws' own helpers for layer 1: pick, awake. Conditions: integers that fit.
-/
import Derived.Test.YtdnngacamdohiaaVarE
import Derived.Test.YtdnngacamdohiaaWordsF
namespace Go.Proofs.Ytdnngacamdohiaa
open Go.RowKit

set_option maxHeartbeats 400000 in
theorem pick1_any (c : Int) (n : Nat) (w : World) (h1 : -9223372036854775808 ≤ c) (h2 : c ≤ 9223372036854775807) (hn : 1 ≤ n) (hn2 : n ≤ 1000000) :
    Calls Try.prog 33 #[.int .i64 c, .int .i64 (n : Int)] w fun e w' => e = .returned (.int .i64 ((pickN c n : Nat) : Int)) ∧ w = w' := by
  by_cases h : c < 0
  · rw [← pickN_neg c n h]
    go_enter Try.func33, Try.ntmps33
    go_wp2
    go_ret
    exact ⟨rfl, rfl⟩
  · have h : 0 ≤ c := by omega
    rw [← pickN_pos c n h]
    go_enter Try.func33, Try.ntmps33
    go_wp2
    go_ret
    exact ⟨rfl, rfl⟩

theorem b1_1 (W : World) : Calls Try.prog 34 #[.string ⟨#[128, 1]⟩, .int .i64 0] W (fun e w' => e = .returned (.tuple #[.int .u64 128, .int .i64 2, .int .i64 0]) ∧ W = w') := vtake_any ⟨#[128, 1]⟩ 0 W (by decide)
theorem b1_2 (W : World) : Calls Try.prog 34 #[.string ⟨#[128, 0]⟩, .int .i64 0] W (fun e w' => e = .returned (.tuple #[.int .u64 0, .int .i64 0, .int .i64 3]) ∧ W = w') := vtake_any ⟨#[128, 0]⟩ 0 W (by decide)
theorem b1_3 (W : World) : Calls Try.prog 34 #[.string ⟨#[128]⟩, .int .i64 0] W (fun e w' => e = .returned (.tuple #[.int .u64 0, .int .i64 0, .int .i64 2]) ∧ W = w') := vtake_any ⟨#[128]⟩ 0 W (by decide)
theorem b1_4 (W : World) : Calls Try.prog 34 #[.string ⟨#[]⟩, .int .i64 (-1)] W (fun e w' => e = .returned (.tuple #[.int .u64 0, .int .i64 0, .int .i64 1]) ∧ W = w') := vtake_any ⟨#[]⟩ (-1) W (by decide)
theorem b1_5 (W : World) : Calls Try.prog 36 #[.string ⟨#[5, 128, 1]⟩, .int .i64 0, .int .i64 2] W (RetTake [5, 128] 3 0 W) := takerow_any ⟨#[5, 128, 1]⟩ 0 2 W (by decide) (by decide)
theorem b1_6 (W : World) : Calls Try.prog 36 #[.string ⟨#[5]⟩, .int .i64 0, .int .i64 2] W (RetTake [] 0 2 W) := takerow_any ⟨#[5]⟩ 0 2 W (by decide) (by decide)
theorem b1_7 (W : World) : Calls Try.prog 27 #[.int .u64 5] W fun e w' => e = .returned (.string ⟨#[5]⟩) ∧ Below W.heap.size W w' := vput_any 5 W (by decide)
theorem b1_8 (W : World) : Calls Try.prog 27 #[.int .u64 128] W fun e w' => e = .returned (.string ⟨#[128, 1]⟩) ∧ Below W.heap.size W w' := vput_any 128 W (by decide)
theorem b1_9 (W : World) : Calls Try.prog 29 #[.int .u64 18446744073709551615] W fun e w' => e = .returned (.int .i64 10) ∧ W = w' := vlen_any 18446744073709551615 W (by decide)
theorem b1_10 (A : Option Addr) (c : Nat) (W : World) (h : Rd W A (us [5, 128])) : Calls Try.prog 31 #[.slice A 2 c] W fun e w' => e = .returned (.string ⟨#[5, 128, 1]⟩) ∧ Below W.heap.size W w' :=
  row_any A [5, 128] c W h (by decide) (by decide)

set_option maxRecDepth 100000 in
set_option maxHeartbeats 1000000 in
theorem awake1_any (w : World) : Calls Try.prog 26 #[] w (RetTrue w) := by
  go_enter Try.func26, Try.ntmps26
  go_wp2_with fail
  refine (b1_1 _).mono ?_
  rintro e w1 ⟨rfl, rfl⟩
  go_wp2_with fail
  refine (b1_2 _).mono ?_
  rintro e w1 ⟨rfl, rfl⟩
  go_wp2_with fail
  refine (b1_3 _).mono ?_
  rintro e w1 ⟨rfl, rfl⟩
  go_wp2_with fail
  refine (b1_4 _).mono ?_
  rintro e w1 ⟨rfl, rfl⟩
  go_wp2_with fail
  refine (b1_5 _).mono ?_
  rintro e w1 ⟨A1, c1, rfl, hr1, hc1, hm1, hb1⟩
  go_wp2_with fail
  refine (b1_6 _).mono ?_
  rintro e w2 ⟨A2, c2, rfl, hr2, hc2, hm2, hb2⟩
  go_wp2_with fail
  refine (b1_7 _).mono ?_
  rintro e w3 ⟨rfl, hb3⟩
  go_wp2_with fail
  refine (b1_8 _).mono ?_
  rintro e w4 ⟨rfl, hb4⟩
  go_wp2_with fail
  refine (b1_9 _).mono ?_
  rintro e w5 ⟨rfl, rfl⟩
  go_wp2_with fail
  refine (b1_10 _ _ _ (Rd.lit w4 _ _ _ rfl)).mono ?_
  rintro e w5 ⟨rfl, hb5⟩
  have h15 := bl_step (bl_alloc (bl_step (bl_step hb2 hb3) hb4) _) hb5
  have hr := (hr1.below h15).alloc (.cells #[.int .u64 5, .int .u64 128] 40)
  go_wp2_with fail
  refine (nums_any A1 _ [5, 128] [5, 128] c1 2 _ hr (Rd.lit w5 _ _ _ rfl) (by decide)).mono ?_
  rintro e w8 ⟨rfl, n8, rfl⟩
  go_wp2
  go_ret
  exact ⟨rfl, bl_drewN (bl_alloc (bl_step hb1 h15) _) _⟩
end Go.Proofs.Ytdnngacamdohiaa
