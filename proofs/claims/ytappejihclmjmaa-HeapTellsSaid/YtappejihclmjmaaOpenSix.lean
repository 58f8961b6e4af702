/-
  Six integers that came in as an array by value. No condition.
-/
import Derived.Test.YtappejihclmjmaaOpenArr
namespace Go.Proofs.Ytappejihclmjmaa
open Go.ChangeShapes Go.WideShapes Go.ChangeAt Go.RowKit

theorem u64_b {a : Int} (h : (Lit.int .u64 a).wf = true) : 0 ≤ a ∧ a < 18446744073709551616 := by
  simp [Lit.wf, IntKind.min, IntKind.max, IntKind.signed, IntKind.bits] at h
  omega

theorem six_of (xs : Array Value) (zs : List Int) (hx : xs.toList = zs.map (Value.int .i64)) (hz : zs.length = 6) (hw : ∀ z ∈ zs, (Lit.int .i64 z).wf = true) :
    ∃ n0 n1 n2 n3 n4 n5 : Int, xs = #[.int .i64 n0, .int .i64 n1, .int .i64 n2, .int .i64 n3, .int .i64 n4, .int .i64 n5] ∧ (-9223372036854775808 ≤ n0 ∧ n0 ≤ 9223372036854775807) ∧ (-9223372036854775808 ≤ n1 ∧ n1 ≤ 9223372036854775807) ∧
      (-9223372036854775808 ≤ n2 ∧ n2 ≤ 9223372036854775807) ∧ (-9223372036854775808 ≤ n3 ∧ n3 ≤ 9223372036854775807) ∧ (-9223372036854775808 ≤ n4 ∧ n4 ≤ 9223372036854775807) ∧ (-9223372036854775808 ≤ n5 ∧ n5 ≤ 9223372036854775807) := by
  match zs, hz with
  | [n0, n1, n2, n3, n4, n5], _ =>
    refine ⟨n0, n1, n2, n3, n4, n5, Array.toList_inj.1 (by rw [hx]; rfl), i64_b (hw n0 (by simp)), i64_b (hw n1 (by simp)), i64_b (hw n2 (by simp)), i64_b (hw n3 (by simp)), i64_b (hw n4 (by simp)), i64_b (hw n5 (by simp))⟩
end Go.Proofs.Ytappejihclmjmaa
