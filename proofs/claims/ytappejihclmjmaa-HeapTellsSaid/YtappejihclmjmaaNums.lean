/-
  The walk of the reference's Nums: whether two lists are the same. No condition.
-/
import Derived.Test.YtappejihclmjmaaBase
import Derived.Lib.Hide
import Derived.Deep.QuietTactic
import Derived.BigQuiet
import Derived.Deep.Draws
namespace Go.Proofs.Ytappejihclmjmaa
open Go.RowKit

def NumsRel (xs ys : List Nat) (w : World) (i : Value) (wr : World) : Prop := ∃ k n, k ≤ xs.length ∧ i = .int .i64 (k : Int) ∧ xs.take k = ys.take k ∧ wr = w.drewN n

theorem nums_no {xs ys : List Nat} {k : Nat} (h1 : k < xs.length) (h2 : k < ys.length) (hd : ((xs[k] : Int) != (ys[k] : Int)) = true) : decide (xs = ys) = false := by
  refine decide_eq_false fun h => ?_
  subst h
  simp at hd
theorem nums_rel {xs ys : List Nat} {w : World} {k n : Nat} (h1 : k < xs.length) (h2 : k < ys.length) (ht : xs.take k = ys.take k) (hd : ((xs[k] : Int) != (ys[k] : Int)) = false) :
    NumsRel xs ys w (.int .i64 ((k : Int) + 1)) (w.drewN n) := by
  refine ⟨k + 1, n, h1, by go_num, ?_, rfl⟩
  have e : xs[k] = ys[k] := by have : (xs[k] : Int) = (ys[k] : Int) := by simpa using hd
                               omega
  rw [List.take_succ_eq_append_getElem h1, List.take_succ_eq_append_getElem h2, ht, e]

set_option maxHeartbeats 400000 in
theorem nums_any (A B : Option Addr) (xs ys : List Nat) (ca cb : Nat) (w : World) (hx : Rd w A (us xs)) (hy : Rd w B (us ys)) (hm : xs.length ≤ 9223372036854775807) :
    Calls Try.prog 46 #[.slice A xs.length ca, .slice B ys.length cb] w fun e w' => e = .returned (.bool (decide (xs = ys))) ∧ ∃ n, w' = w.drewN n := by
  by_cases hlen : xs.length = ys.length
  · have hne : ((xs.length : Int) != (ys.length : Int)) = false := by simp [hlen]
    go_enter Try.func46, Try.ntmps46
    have HL := Lib.hid hlen
    clear hlen
    go_wp2
    go_loopw [5] (fun i wr => NumsRel xs ys w i wr) (fun i _ => xs.length - (intOf i).toNat)
    case atStart => exact ⟨0, 0, Nat.zero_le _, rfl, by simp, rfl⟩
    case round =>
      obtain ⟨k, n, hk, rfl, ht, rfl⟩ := hrel
      by_cases hlt : k < xs.length
      · obtain ⟨b, off, rfl, hb, hc⟩ := hx.us_at (k := k) hlt
        obtain ⟨b', off', rfl, hb', hc'⟩ := hy.us_at (k := k) (by rw [← HL.out]; exact hlt)
        have hlt2 : k < ys.length := by rw [← HL.out]; exact hlt
        go_wp2
        go_quiet (fail)
        go_wp2
        · go_ret
          have hd : ((xs[k] : Int) != (ys[k] : Int)) = true := by assumption
          exact ⟨by rw [nums_no hlt hlt2 hd]; rfl, n + nq, by rw [World.drewN_drewN]⟩
        · have hd : ((xs[k] : Int) != (ys[k] : Int)) = false := by assumption
          exact ⟨nums_rel hlt hlt2 ht hd, by simp [intOf]; omega⟩
      · go_wp2
        go_ret
        have hx' : xs = ys := by
          rw [List.take_of_length_le (by omega), List.take_of_length_le (by have := HL.out; omega)] at ht
          exact ht
        exact ⟨by simp [hx'], n, rfl⟩
  · have hne : ((xs.length : Int) != (ys.length : Int)) = true := by simp; omega
    go_enter Try.func46, Try.ntmps46
    have HL := Lib.hid hlen
    clear hlen
    go_wp2
    go_ret
    exact ⟨by rw [show decide (xs = ys) = false from decide_eq_false (fun h => HL.out (by rw [h]))]; rfl, 0, rfl⟩
end Go.Proofs.Ytappejihclmjmaa
