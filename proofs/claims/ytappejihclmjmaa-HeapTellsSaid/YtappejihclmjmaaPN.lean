/-
  Words that the walks of layer 7's laws share: contracts at a layout whose numbers are named; lists of sizes. Conditions: integers that fit; a right layout.
-/
import Derived.Test.YtappejihclmjmaaPM
namespace Go.Proofs.Ytappejihclmjmaa
open Go.RowKit

theorem RetTrue.both {W : World} {e : Ending} {w' : World} (h : RetTrue W e w') : e = .returned (.bool true) ∧ Below W.heap.size W w' := h
theorem RetTrue.later {W : World} {e : Ending} {w' : World} (h : RetTrue W e w') : e = .returned (.bool true) ∧ ∃ x : Later W, w' = x.w := ⟨h.1, ⟨w', h.2⟩, rfl⟩

theorem find_none (l : Lay) (y : Int) (W : World) (h : l.Ok) (h1 : 0 ≤ y) (h2 : y < 18446744073709551616) (hk : fndK l y = 0) :
    Calls Try.prog 26 #[.agg l.cells, .int .u64 y] W (RetB (.tuple #[.agg #[.int .i64 0, .int .i64 0], .int .i64 6]) W) := by
  have h := find_any l y W (ok_wf h) h1 h2
  rw [show fndV l y = .tuple #[.agg #[.int .i64 0, .int .i64 0], .int .i64 6] by simp [fndV, fndP, fndI, fndE, *]] at h
  exact h
theorem find_some (l : Lay) (y : Int) (W : World) (h : l.Ok) (h1 : 0 ≤ y) (h2 : y < 18446744073709551616) (hk : fndK l y ≠ 0) :
    Calls Try.prog 26 #[.agg l.cells, .int .u64 y] W (RetB (.tuple #[.agg #[.int .i64 (fndP l y), .int .i64 (fndI l y)], .int .i64 0]) W) := by
  have h := find_any l y W (ok_wf h) h1 h2
  rw [show fndV l y = .tuple #[.agg #[.int .i64 (fndP l y), .int .i64 (fndI l y)], .int .i64 0] by simp [fndV, fndE, *]] at h
  exact h
/-- What Find tells is within bounds. -/
theorem find_b (l : Lay) (y : Int) (h : l.Ok) (hk : fndK l y ≠ 0) : 1 ≤ fndP l y ∧ fndP l y ≤ 4 ∧ 0 ≤ fndI l y ∧ fndI l y < 4096 := by
  have h1 := fndK_has l y hk
  have h2 := fndK_le l y
  have h3 := off_in l h (fndK l y) (by omega) h2
  unfold Lay.has at h1
  rw [fndP, fndI, if_pos h, if_pos h, if_neg hk]
  omega
theorem address_found (l : Lay) (y : Int) (W : World) (h : l.Ok) (hk : fndK l y ≠ 0) :
    Calls Try.prog 24 #[.agg l.cells, .agg #[.int .i64 (fndP l y), .int .i64 (fndI l y)]] W (RetB (.tuple #[.int .u64 y, .int .i64 0]) W) := by
  have hb := find_b l y h hk
  have h1 := address_any l (fndP l y) (fndI l y) W (ok_wf h) (by omega) (by omega)
  have h2 := adr_find l h y hk
  rw [h2.1, h2.2] at h1
  exact h1
theorem address_in (l : Lay) (p i : Int) (W : World) (h : l.Ok) (hp : 1 ≤ p) (hp4 : p ≤ 4) (h0 : 0 ≤ i) (hi : i < l.size p.toNat) :
    Calls Try.prog 24 #[.agg l.cells, .agg #[.int .i64 p, .int .i64 i]] W (RetB (.tuple #[.int .u64 (l.at_ p.toNat + i), .int .i64 0]) W) := by
  have h3 := off_in l h p.toNat (by omega) (by omega)
  have h1 := address_any l p i W (ok_wf h) (by omega) (by omega)
  rw [adrA, adrE, if_pos h, if_pos ⟨h, hp, hp4, h0, hi⟩, if_pos ⟨hp, hp4, h0, hi⟩] at h1
  exact h1
theorem address_out (l : Lay) (p i : Int) (W : World) (h : l.Ok) (hp : -9223372036854775808 ≤ p ∧ p ≤ 9223372036854775807) (hi : -9223372036854775808 ≤ i ∧ i ≤ 9223372036854775807) (hn : p < 1 ∨ 4 < p ∨ i < 0 ∨ l.size p.toNat ≤ i) :
    Calls Try.prog 24 #[.agg l.cells, .agg #[.int .i64 p, .int .i64 i]] W (RetB (.tuple #[.int .u64 0, .int .i64 6]) W) := by
  have h1 := address_any l p i W (ok_wf h) hp hi
  rw [adrA, adrE, if_pos h, if_neg (by omega), if_neg (by omega)] at h1
  exact h1
theorem find_in (l : Lay) (p i : Int) (W : World) (h : l.Ok) (hp : 1 ≤ p) (hp4 : p ≤ 4) (h0 : 0 ≤ i) (hi : i < l.size p.toNat) :
    Calls Try.prog 26 #[.agg l.cells, .int .u64 (l.at_ p.toNat + i)] W (RetB (.tuple #[.agg #[.int .i64 p, .int .i64 i], .int .i64 0]) W) := by
  have hb := at_b l h p.toNat (by omega) (by omega)
  have h1 := find_any l (l.at_ p.toNat + i) W (ok_wf h) (by omega) (by omega)
  have h2 := find_adr l h p i hp hp4 h0 hi
  rw [show l.base + l.off p.toNat + i = l.at_ p.toNat + i from rfl] at h2
  rw [fndV, h2.1, h2.2.1, h2.2.2] at h1
  exact h1

/-- Four numbers lie in block s. -/
def FourAt (w : World) (s : Nat) (k : IntKind) (a b c d : Int) : Prop := w.cell? ⟨s, 0, none⟩ = some (.int k a) ∧ w.cell? ⟨s, 1, none⟩ = some (.int k b) ∧ w.cell? ⟨s, 2, none⟩ = some (.int k c) ∧ w.cell? ⟨s, 3, none⟩ = some (.int k d)
theorem FourAt.below {w w' : World} {s : Nat} {k : IntKind} {a b c d : Int} (h : FourAt w s k a b c d) (hb : Below w.heap.size w w') : FourAt w' s k a b c d := by
  obtain ⟨c0, c1, c2, c3⟩ := h
  have hg : s < w.heap.size := World.block_lt_of_cell? w _ c0
  exact ⟨(below_cell hb s 0 hg).trans c0, (below_cell hb s 1 hg).trans c1, (below_cell hb s 2 hg).trans c2, (below_cell hb s 3 hg).trans c3⟩
theorem FourAt.lit (w : World) (k : IntKind) (a b c d : Int) (t : TypeId) : FourAt (w.alloc (.cells #[.int k a, .int k b, .int k c, .int k d] t)) w.heap.size k a b c d := by
  refine ⟨?_, ?_, ?_, ?_⟩ <;> (rw [cell_of_row _ _ _ _ _ _ (heap_alloc_new w _)]; rfl)
theorem FourAt.alloc {w : World} {s : Nat} {k : IntKind} {a b c d : Int} (h : FourAt w s k a b c d) (o : Obj) : FourAt (w.alloc o) s k a b c d := h.below (bl_alloc (bl_refl w) o)
theorem FourAt.size {w : World} {s : Nat} {l : Lay} (h : FourAt w s .i64 l.low l.high l.old l.far) (p : Int) (h1 : 1 ≤ p) (h4 : p ≤ 4) : w.cell? ⟨s, p.toNat - 1, none⟩ = some (.int .i64 (l.size p.toNat)) := by
  obtain ⟨c0, c1, c2, c3⟩ := h
  obtain rfl | rfl | rfl | rfl : p = 1 ∨ p = 2 ∨ p = 3 ∨ p = 4 := by omega
  · exact c0
  · exact c1
  · exact c2
  · exact c3
end Go.Proofs.Ytappejihclmjmaa
