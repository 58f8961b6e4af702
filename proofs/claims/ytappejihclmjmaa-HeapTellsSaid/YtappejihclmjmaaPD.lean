/-
  Contracts of layer 7: spans. Condition: a right layout.
-/
import Derived.Test.YtappejihclmjmaaPC
import Derived.Test.YtappejihclmjmaaTail
namespace Go.Proofs.Ytappejihclmjmaa
open Go.RowKit
attribute [local go_sem ↓] Go.wp_at_zero Go.wp_at_succ

/-- The spans, cell by cell. -/
def Lay.spans (l : Lay) : Array Value := #[.int .u64 (l.at_ 1), .int .i64 l.low, .int .u64 (l.at_ 2), .int .i64 l.high, .int .u64 (l.at_ 3), .int .i64 l.old, .int .u64 (l.at_ 4), .int .i64 l.far]

theorem below_cell {W w : World} (h : Below W.heap.size W w) (b o : Nat) (hb : b < W.heap.size) : w.cell? ⟨b, o, none⟩ = W.cell? ⟨b, o, none⟩ := h.cell (p := ⟨b, o, none⟩) hb
theorem below_frozen {W w : World} (h : Below W.heap.size W w) (b o : Nat) (hb : b < W.heap.size) : w.frozen? ⟨b, o, none⟩ = W.frozen? ⟨b, o, none⟩ := h.frozen (p := ⟨b, o, none⟩) hb

set_option maxHeartbeats 1000000 in
theorem spans_any (l : Lay) (w : World) (h : l.Ok) : Calls Try.prog 44 #[.agg l.cells] w (RetB (.agg l.spans) w) := by
  obtain ⟨a1, ha1⟩ : ∃ a, a = l.at_ 1 := ⟨_, rfl⟩
  obtain ⟨a2, ha2⟩ : ∃ a, a = l.at_ 2 := ⟨_, rfl⟩
  obtain ⟨a3, ha3⟩ : ∃ a, a = l.at_ 3 := ⟨_, rfl⟩
  obtain ⟨a4, ha4⟩ : ∃ a, a = l.at_ 4 := ⟨_, rfl⟩
  have H1 := fun W => first_any l 1 W h (by omega) (by omega)
  have H2 := fun W => first_any l 2 W h (by omega) (by omega)
  have H3 := fun W => first_any l 3 W h (by omega) (by omega)
  have H4 := fun W => first_any l 4 W h (by omega) (by omega)
  rw [show (1 : Int).toNat = 1 from rfl, ← ha1] at H1
  rw [show (2 : Int).toNat = 2 from rfl, ← ha2] at H2
  rw [show (3 : Int).toNat = 3 from rfl, ← ha3] at H3
  rw [show (4 : Int).toNat = 4 from rfl, ← ha4] at H4
  rw [Lay.spans, ← ha1, ← ha2, ← ha3, ← ha4]
  clear ha1 ha2 ha3 ha4 h
  obtain ⟨base, cap, to, low, high, old, far⟩ := l
  simp only [Lay.cells] at H1 H2 H3 H4 ⊢
  have K1 := Lib.hid H1
  have K2 := Lib.hid H2
  have K3 := Lib.hid H3
  have K4 := Lib.hid H4
  clear H1 H2 H3 H4
  go_enter Try.func44, Try.ntmps44
  go_wp2
  refine wp_region_later_tail 21 (by kernel_rfl) (by kernel_rfl) ?_
  simp only [List.take_succ_cons, List.take_zero, List.drop_succ_cons, List.drop_zero]
  repeat (go_big_quiet_step ((first | with_reducible exact later_retB (K1.out _) | with_reducible exact later_retB (K2.out _) | with_reducible exact later_retB (K3.out _) | with_reducible exact later_retB (K4.out _))))
  refine wpQuiet_nil ?_
  intro _ hw'
  obtain ⟨x, hw''⟩ := hw'
  subst hw''
  go_wp2
  exact bodyPost_ret (v := .agg #[.int .u64 a1, .int .i64 low, .int .u64 a2, .int .i64 high, .int .u64 a3, .int .i64 old, .int .u64 a4, .int .i64 far]) (by simp [results, Try.results44, go_sem]) rfl
    ⟨rfl, ((((((((bl_step (bl_alloc (bl_alloc (bl_refl w) _) _) x.below).setCell (by simp) _).setCell (by simp) _).setCell (by simp) _).setCell (by simp) _).setCell (by simp) _).setCell (by simp) _).setCell (by simp) _).setCell (by simp) _⟩
end Go.Proofs.Ytappejihclmjmaa
