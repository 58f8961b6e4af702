/-
  The walks of the laws' own helpers for layer 2: pick, awake. Conditions: integers that fit.
-/
import Derived.Test.YtdnngacamdohiaaWordsE
import Derived.Test.YtdnngacamdohiaaNums
namespace Go.Proofs.Ytdnngacamdohiaa
open Go.RowKit

/-- Which of n things a raw number speaks of. -/
def pickN (c : Int) (n : Nat) : Nat := (if c < 0 then -(c + 1) else c).toNat % n
theorem pickN_lt (c : Int) (n : Nat) (h : 0 < n) : pickN c n < n := Nat.mod_lt _ h
theorem pickN_neg (c : Int) (n : Nat) (h : c < 0) : (-(c + 1).tmod (n : Int)) = ((pickN c n : Nat) : Int) := by
  rw [pickN, if_pos h, Int.natCast_emod, Int.toNat_of_nonneg (by omega), ← Int.neg_tmod, Int.tmod_eq_emod_of_nonneg (by omega)]
theorem pickN_pos (c : Int) (n : Nat) (h : 0 ≤ c) : c % (n : Int) = ((pickN c n : Nat) : Int) := by
  rw [pickN, if_neg (by omega), Int.natCast_emod, Int.toNat_of_nonneg (by omega)]

set_option maxHeartbeats 400000 in
theorem pick2_any (c : Int) (n : Nat) (w : World) (h1 : -9223372036854775808 ≤ c) (h2 : c ≤ 9223372036854775807) (hn : 1 ≤ n) (hn2 : n ≤ 1000000) :
    Calls Try.prog 20 #[.int .i64 c, .int .i64 (n : Int)] w fun e w' => e = .returned (.int .i64 ((pickN c n : Nat) : Int)) ∧ w = w' := by
  by_cases h : c < 0
  · rw [← pickN_neg c n h]
    go_enter Try.func20, Try.ntmps20
    go_wp2
    go_ret
    exact ⟨rfl, rfl⟩
  · have h : 0 ≤ c := by omega
    rw [← pickN_pos c n h]
    go_enter Try.func20, Try.ntmps20
    go_wp2
    go_ret
    exact ⟨rfl, rfl⟩

/-- True is handed back; below the heap's size nothing has turned. -/
def RetTrue (w : World) (en : Ending) (w' : World) : Prop := en = .returned (.bool true) ∧ Below w.heap.size w w'

theorem a2_1 (W : World) : Calls Try.prog 23 #[.string ⟨#[1, 0, 0, 0, 0, 0, 0, 0]⟩, .int .i64 0, .int .i64 1] W (RetTake [1] 8 0 W) := take_any ⟨#[1, 0, 0, 0, 0, 0, 0, 0]⟩ 0 1 W (by decide) (by omega) (by omega)
theorem a2_2 (W : World) : Calls Try.prog 23 #[.string ⟨#[1]⟩, .int .i64 0, .int .i64 1] W (RetTake [] 0 2 W) := take_any ⟨#[1]⟩ 0 1 W (by decide) (by omega) (by omega)
theorem a2_3 (W : World) : Calls Try.prog 23 #[.string ⟨#[]⟩, .int .i64 (-1), .int .i64 0] W (RetTake [] 0 1 W) := take_any ⟨#[]⟩ (-1) 0 W (by decide) (by omega) (by omega)
theorem a2_4 (W : World) : Calls Try.prog 21 #[.string ⟨#[2, 1, 0, 0]⟩, .int .i64 0] W (RetHalf 258 4 0 W) := takehalf_any ⟨#[2, 1, 0, 0]⟩ 0 W (by decide) (by omega)
theorem a2_5 (W : World) : Calls Try.prog 21 #[.string ⟨#[2, 1, 0]⟩, .int .i64 0] W (RetHalf 0 0 2 W) := takehalf_any ⟨#[2, 1, 0]⟩ 0 W (by decide) (by omega)

theorem a2_6 (A : Option Addr) (c : Nat) (W : World) (h : Rd W A (us [1, 256])) : Calls Try.prog 16 #[.slice A 2 c] W fun e w' => e = .returned (.string ⟨#[1, 0, 0, 0, 0, 0, 0, 0, 0, 1, 0, 0, 0, 0, 0, 0]⟩) ∧ Below W.heap.size W w' :=
  put_any A [1, 256] c W h (by decide) (by decide)
theorem a2_7 (W : World) : Calls Try.prog 18 #[.int .u32 258] W fun e w' => e = .returned (.string ⟨#[2, 1, 0, 0]⟩) ∧ Below W.heap.size W w' := puthalf_any 258 W (by decide)

set_option maxHeartbeats 1000000 in
theorem awake2_any (w : World) : Calls Try.prog 15 #[] w (RetTrue w) := by
  go_enter Try.func15, Try.ntmps15
  go_wp2_with fail
  refine (a2_1 _).mono ?_
  rintro e w1 ⟨A1, c1, rfl, hr1, hc1, hm1, hb1⟩
  go_wp2_with fail
  refine (a2_2 _).mono ?_
  rintro e w2 ⟨A2, c2, rfl, hr2, hc2, hm2, hb2⟩
  go_wp2_with fail
  refine (a2_3 _).mono ?_
  rintro e w3 ⟨A3, c3, rfl, hr3, hc3, hm3, hb3⟩
  go_wp2_with fail
  refine (a2_4 _).mono ?_
  rintro e w4 ⟨rfl, hb4⟩
  go_wp2_with fail
  refine (a2_5 _).mono ?_
  rintro e w5 ⟨rfl, hb5⟩
  go_wp2_with fail
  refine (a2_6 _ _ _ (Rd.lit w5 _ _ _ rfl)).mono ?_
  rintro e w6 ⟨rfl, hb6⟩
  go_wp2_with fail
  refine (a2_7 _).mono ?_
  rintro e w7 ⟨rfl, hb7⟩
  have h15 := bl_step (bl_step (bl_step hb2 hb3) hb4) hb5
  have h17 := bl_step (bl_step (bl_alloc h15 _) hb6) hb7
  have hr := (hr1.below h17).alloc (.cells #[.int .u64 1] 40)
  go_wp2_with fail
  refine (nums_any A1 _ [1] [1] c1 1 _ hr (Rd.lit w7 _ _ _ rfl) (by decide)).mono ?_
  rintro e w8 ⟨rfl, n8, rfl⟩
  go_wp2
  go_ret
  exact ⟨rfl, bl_drewN (bl_alloc (bl_step hb1 h17) _) _⟩
end Go.Proofs.Ytdnngacamdohiaa
