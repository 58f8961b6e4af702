/-
  Contracts of layer 7: first, spans, Room, Flip of the program; addresses, Room, Flip of the document. Conditions: integers that fit.
-/
import Derived.Test.YtappejihclmjmaaPB
import Derived.Deep.RegionWith
import Derived.Deep.DrawnRows
namespace Go.Proofs.Ytappejihclmjmaa
open Go.RowKit
attribute [local go_sem ↓] Go.wp_at_zero Go.wp_at_succ

/-- A part's first address. -/
def Lay.at_ (l : Lay) (p : Nat) : Int := l.base + l.off p

theorem lay_mul0 (a b c : Int) (h : c = 0) : IntKind.u64.wrap (IntKind.i64.wrap (c * b)) = 0 := by subst h; rw [Int.zero_mul]; decide

set_option maxHeartbeats 1000000 in
theorem first_any (l : Lay) (p : Int) (w : World) (h : l.Ok) (hp : 1 ≤ p) (hp4 : p ≤ 4) : Calls Try.prog 49 #[.agg l.cells, .int .i64 p] w (RetB (.int .u64 (l.at_ p.toNat)) w) := by
  obtain ⟨base, cap, to, low, high, old, far⟩ := l
  obtain ⟨k1, k2, k3, k4, k5, k6, k7, k8, k9, k10, k11⟩ := h
  simp only at k1 k2 k3 k4 k5 k6 k7 k8 k9 k10 k11
  show Calls _ _ #[.agg #[.int .u64 base, .int .i64 cap, .int .i64 to, .int .i64 low, .int .i64 high, .int .i64 old, .int .i64 far], _] w _
  have hbel := bl_alloc (bl_refl w) (.cells #[.int .u64 base, .int .i64 cap, .int .i64 to, .int .i64 low, .int .i64 high, .int .i64 old, .int .i64 far] 24)
  have k4' : base ≤ 9223372036854775808 - 2 * cap := by omega
  have k12 : high ≤ cap := by omega
  have k13 : far ≤ cap := by omega
  obtain rfl | rfl | rfl | rfl : p = 1 ∨ p = 2 ∨ p = 3 ∨ p = 4 := by omega
  all_goals
    rcases k5 with rfl | rfl
    all_goals
      go_enter Try.func49, Try.ntmps49
      go_wp2
      go_ret
      refine ⟨?_, hbel⟩
      simp [Lay.at_, Lay.off]
      try omega
end Go.Proofs.Ytappejihclmjmaa
