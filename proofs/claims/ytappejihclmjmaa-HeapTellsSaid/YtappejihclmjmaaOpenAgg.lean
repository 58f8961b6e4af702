/-
  A place, and a layout, that came in by value. No condition.
-/
import Derived.Test.YtappejihclmjmaaOpenSix
import Derived.Test.YtappejihclmjmaaPPlain
import Derived.Test.YtappejihclmjmaaPA
import Derived.Lib.SmallJoins
namespace Go.Proofs.Ytappejihclmjmaa
open Go.Joins Go.ChangeShapes Go.WideShapes Go.RowKit Go.Deep

theorem int_cell {P : Program} {H : Type} {enc : TypeId × Value → H} {W : World} {fuel t : Nat} {k : IntKind} {v : Value} {y : DataW H × List MemPlace} (he : P.underlying t = some (.int k))
    (h : DataW.trod enc P W 0 (fun _ => true) true fuel t [v] = some y) : ∃ z, v = .int k z ∧ (Lit.int k z).wf = true := by
  obtain ⟨z, hz, _, hw⟩ := DataW.trod_int he h
  injection hz with hz
  exact ⟨z, hz, hw⟩

theorem open_place {H : Type} {enc : TypeId × Value → H} {W : World} {base : Nat} {r : Reach} {v : Value} {d : DataW H} {p : List MemPlace}
    (hval : Value.okWide Try.prog W r base 27 v) (h : DataW.Trod enc Try.prog W 0 (fun _ => true) true 27 v d p) :
    ∃ a c : Int, v = .agg #[.int .i64 a, .int .i64 c] ∧ (-9223372036854775808 ≤ a ∧ a ≤ 9223372036854775807) ∧ (-9223372036854775808 ≤ c ∧ c ≤ 9223372036854775807) := by
  obtain ⟨v0, v1, y0, y1, n, rfl, _, _, h0, h1⟩ := open_agg2 Try.underlying27 (by kernel_rfl) (by kernel_rfl) hval h
  obtain ⟨a, rfl, ha⟩ := int_cell Try.underlying3 h0
  obtain ⟨c, rfl, hc⟩ := int_cell Try.underlying3 h1
  exact ⟨a, c, rfl, i64_b ha, i64_b hc⟩

theorem open_lay {H : Type} {enc : TypeId × Value → H} {W : World} {base : Nat} {r : Reach} {v : Value} {d : DataW H} {p : List MemPlace}
    (hval : Value.okWide Try.prog W r base 24 v) (h : DataW.Trod enc Try.prog W 0 (fun _ => true) true 24 v d p) :
    ∃ l : Lay, v = .agg l.cells ∧ l.Wf := by
  have hs := Try.underlying24
  have hone : ∀ fs, Try.prog.underlying 24 = some (.struct fs) → oneCellFields Try.prog fs = true := fun fs e => by
    rw [hs] at e; injection e with e; injection e with e; subst e; kernel_rfl
  obtain ⟨cs, rfl, hsz⟩ := okWide_struct hs hval
  have hC : Try.prog.cellsOf 24 = 7 := by kernel_rfl
  obtain ⟨cl⟩ := cs
  match cl, hsz.trans hC with
  | [c0, c1, c2, c3, c4, c5, c6], _ =>
    obtain ⟨fuel, hf⟩ := h
    obtain ⟨xs, n, _, hx, _, hlen, hg⟩ := DataW.trod_struct hs hf
    have hone' := hone _ hs
    have e3 : Try.prog.cellsOf 3 = 1 := by kernel_rfl
    have e22 : Try.prog.cellsOf 22 = 1 := by kernel_rfl
    obtain ⟨o0, k0⟩ := hone_of hone' 0 _ rfl
    obtain ⟨o1, k1⟩ := hone_of hone' 1 _ rfl
    obtain ⟨o2, k2⟩ := hone_of hone' 2 _ rfl
    obtain ⟨o3, k3⟩ := hone_of hone' 3 _ rfl
    obtain ⟨o4, k4⟩ := hone_of hone' 4 _ rfl
    obtain ⟨o5, k5⟩ := hone_of hone' 5 _ rfl
    obtain ⟨o6, k6⟩ := hone_of hone' 6 _ rfl
    match xs, hlen with
    | [y0, y1, y2, y3, y4, y5, y6], _ =>
      obtain ⟨z0, rfl, w0⟩ := int_cell (k := .u64) (y := y0) Try.underlying22 (by simpa [Value.cells, o0, k0, e3, e22] using hg 0 _ rfl)
      obtain ⟨z1, rfl, w1⟩ := int_cell (k := .i64) (y := y1) Try.underlying3 (by simpa [Value.cells, o1, k1, e3, e22] using hg 1 _ rfl)
      obtain ⟨z2, rfl, w2⟩ := int_cell (k := .i64) (y := y2) Try.underlying3 (by simpa [Value.cells, o2, k2, e3, e22] using hg 2 _ rfl)
      obtain ⟨z3, rfl, w3⟩ := int_cell (k := .i64) (y := y3) Try.underlying3 (by simpa [Value.cells, o3, k3, e3, e22] using hg 3 _ rfl)
      obtain ⟨z4, rfl, w4⟩ := int_cell (k := .i64) (y := y4) Try.underlying3 (by simpa [Value.cells, o4, k4, e3, e22] using hg 4 _ rfl)
      obtain ⟨z5, rfl, w5⟩ := int_cell (k := .i64) (y := y5) Try.underlying3 (by simpa [Value.cells, o5, k5, e3, e22] using hg 5 _ rfl)
      obtain ⟨z6, rfl, w6⟩ := int_cell (k := .i64) (y := y6) Try.underlying3 (by simpa [Value.cells, o6, k6, e3, e22] using hg 6 _ rfl)
      exact ⟨⟨z0, z1, z2, z3, z4, z5, z6⟩, rfl, u64_b w0, i64_b w1, i64_b w2, i64_b w3, i64_b w4, i64_b w5, i64_b w6⟩
end Go.Proofs.Ytappejihclmjmaa
