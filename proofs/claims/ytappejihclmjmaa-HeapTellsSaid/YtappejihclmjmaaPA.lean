/-
  Contracts of layer 7's inner functions: pick, within, first, Right of both. Conditions: integers that fit; first: a right layout.
-/
import Derived.Test.YtappejihclmjmaaPPlain
import Derived.Test.YtappejihclmjmaaLater
import Derived.Deep.RegionHeld3
namespace Go.Proofs.Ytappejihclmjmaa
open Go.RowKit

/-- True is handed back; below the heap's size nothing has turned. -/
def RetTrue (w : World) (en : Ending) (w' : World) : Prop := en = .returned (.bool true) ∧ Below w.heap.size w w'
/-- A value is handed back; below the heap's size nothing has turned. -/
def RetB (v : Value) (w : World) (en : Ending) (w' : World) : Prop := en = .returned v ∧ Below w.heap.size w w'

theorem later_retB {P : Program} {f : FuncId} {args : Array Value} {W : World} {x : Later W} {v : Value} (h : Calls P f args x.w (RetB v x.w)) :
    Calls P f args x.w fun e w'' => e = .returned v ∧ ∃ y : Later W, w'' = y.w := later_of h

/-- A layout as a value, a place, too. -/
def Lay.cells (l : Lay) : Array Value := #[.int .u64 l.base, .int .i64 l.cap, .int .i64 l.to, .int .i64 l.low, .int .i64 l.high, .int .i64 l.old, .int .i64 l.far]

def pickI (c n : Int) : Int := if c < 0 then (-(c + 1)) % n else c % n
theorem pickI_b (c n : Int) (h : 1 ≤ n) : 0 ≤ pickI c n ∧ pickI c n < n := by
  unfold pickI
  split
  · exact ⟨Int.emod_nonneg _ (by omega), Int.emod_lt_of_pos _ (by omega)⟩
  · exact ⟨Int.emod_nonneg _ (by omega), Int.emod_lt_of_pos _ (by omega)⟩

set_option maxHeartbeats 400000 in
theorem pick_any (c n : Int) (w : World) (h1 : -9223372036854775808 ≤ c) (h2 : c ≤ 9223372036854775807) (hn : 1 ≤ n) (hn2 : n ≤ 1000000) :
    Calls Try.prog 17 #[.int .i64 c, .int .i64 n] w fun e w' => e = .returned (.int .i64 (pickI c n)) ∧ w = w' := by
  by_cases h : c < 0
  · rw [show pickI c n = -((c + 1).tmod n) by rw [pickI, if_pos h, ← Int.neg_tmod, Int.tmod_eq_emod_of_nonneg (by omega)]]
    go_enter Try.func17, Try.ntmps17
    go_wp2
    go_ret
    exact ⟨rfl, rfl⟩
  · rw [pickI, if_neg h]
    have h : 0 ≤ c := by omega
    go_enter Try.func17, Try.ntmps17
    go_wp2
    go_ret
    exact ⟨rfl, rfl⟩

def withinB (a b n : Int) : Bool := decide (0 ≤ a ∧ 0 ≤ b ∧ a + b ≤ n)
set_option maxHeartbeats 400000 in
theorem within_any (a b n : Int) (w : World) (ha : -9223372036854775808 ≤ a ∧ a ≤ 9223372036854775807) (hb : -9223372036854775808 ≤ b ∧ b ≤ 9223372036854775807) (hn : 0 ≤ n) (hn2 : n ≤ 4096) :
    Calls Try.prog 43 #[.int .i64 a, .int .i64 b, .int .i64 n] w fun e w' => e = .returned (.bool (withinB a b n)) ∧ w = w' := by
  obtain ⟨ha1, ha2⟩ := ha
  obtain ⟨hb1, hb2⟩ := hb
  by_cases h1 : 0 ≤ a
  · by_cases h2 : 0 ≤ b
    · by_cases h3 : a ≤ n
      · by_cases h4 : b ≤ n - a
        · rw [show withinB a b n = true from decide_eq_true (by omega)]
          go_enter Try.func43, Try.ntmps43
          go_wp2
          go_ret
          exact ⟨rfl, rfl⟩
        · rw [show withinB a b n = false from decide_eq_false (by omega)]
          have h4 : n - a < b := by omega
          go_enter Try.func43, Try.ntmps43
          go_wp2
          go_ret
          exact ⟨rfl, rfl⟩
      · rw [show withinB a b n = false from decide_eq_false (by omega)]
        have h3 : n < a := by omega
        go_enter Try.func43, Try.ntmps43
        go_wp2
        go_ret
        exact ⟨rfl, rfl⟩
    · rw [show withinB a b n = false from decide_eq_false (by omega)]
      have h2 : b < 0 := by omega
      go_enter Try.func43, Try.ntmps43
      go_wp2
      go_ret
      exact ⟨rfl, rfl⟩
  · rw [show withinB a b n = false from decide_eq_false (by omega)]
    have h1 : a < 0 := by omega
    go_enter Try.func43, Try.ntmps43
    go_wp2
    go_ret
    exact ⟨rfl, rfl⟩
end Go.Proofs.Ytappejihclmjmaa
