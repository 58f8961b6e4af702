/-
  Contracts of layer 7: addresses, Address of the document. Conditions: integers that fit.
-/
import Derived.Test.YtappejihclmjmaaPF
import Derived.Test.YtappejihclmjmaaPH
import Derived.Deep.QuietTactic
import Derived.BigQuiet
namespace Go.Proofs.Ytappejihclmjmaa
open Go.RowKit

set_option maxHeartbeats 2000000 in
theorem addresses_yes (l : Lay) (p : Int) (w : World) (h : l.Ok) (hp : 1 ≤ p) (hp4 : p ≤ 4) :
    Calls Try.prog 45 #[.agg l.cells, .int .i64 p] w (RetB (.tuple #[.int .u64 (l.at_ p.toNat), .int .i64 (l.size p.toNat)]) w) := by
  obtain ⟨base, cap, tu, low, high, old, far⟩ := l
  obtain ⟨k1, k2, k3, k4, k5, k6, k7, k8, k9, k10, k11⟩ := h
  simp only at k1 k2 k3 k4 k5 k6 k7 k8 k9 k10 k11
  show Calls _ _ #[.agg #[.int .u64 base, .int .i64 cap, .int .i64 tu, .int .i64 low, .int .i64 high, .int .i64 old, .int .i64 far], _] w _
  have hbel := bl_alloc (bl_refl w) (.cells #[.int .u64 base, .int .i64 cap, .int .i64 tu, .int .i64 low, .int .i64 high, .int .i64 old, .int .i64 far] 24)
  have k4' : base ≤ 9223372036854775808 - 2 * cap := by omega
  have k12 : high ≤ cap := by omega
  have k13 : far ≤ cap := by omega
  obtain rfl | rfl | rfl | rfl : p = 1 ∨ p = 2 ∨ p = 3 ∨ p = 4 := by omega
  all_goals
    rcases k5 with rfl | rfl
    all_goals
      have e1 : IntKind.i64.wrap (cap - high) = cap - high := IntWalk.i64_in _ (by omega)
      have e2 : IntKind.i64.wrap (cap - far) = cap - far := IntWalk.i64_in _ (by omega)
      go_enter Try.func45, Try.ntmps45
      go_wp2
      go_quiet (fail)
      go_wp2
      go_ret2
      refine ⟨?_, bl_drewN hbel _⟩
      simp [Lay.at_, Lay.off, Lay.size]
      try omega
end Go.Proofs.Ytappejihclmjmaa
