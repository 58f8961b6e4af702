/-
  A heap that came in by value, opened as words. No condition.
-/
import Derived.Test.YtappejihclmjmaaOpenAgg
import Derived.Test.YtappejihclmjmaaHA
namespace Go.Proofs.Ytappejihclmjmaa
open Go.Joins Go.ChangeShapes Go.WideShapes Go.RowKit Go.Deep

theorem slice_cell {H : Type} {enc : TypeId × Value → H} {W : World} {fuel : Nat} {v : Value} {y : DataW H × List MemPlace}
    (hf : DataW.trod enc Try.prog W 0 (fun _ => true) true fuel 40 [v] = some y) : ∃ (s : Sl) (l : List Nat), v = s.v ∧ s.Is W l := by
  rcases open_ints Try.underlying40 Try.underlying22 (by kernel_rfl) hf with ⟨hcs, _⟩ | ⟨x, len, cap, zs, hcs, _, hl, hm, hz, _, hcell, hwz⟩
  · injection hcs with hcs
    exact ⟨⟨none, 0, 0⟩, [], hcs, rfl, Nat.le_refl _, by show 0 ≤ 9223372036854775807; omega, Rd.none_ _ _⟩
  · injection hcs with hcs
    have hz' : zs.length = cap := by simpa using hz
    have hb : ∀ n ∈ zs, 0 ≤ n ∧ n < 18446744073709551616 := fun n hn => by
      have := hwz n hn
      simp [Lit.wf, IntKind.min, IntKind.max, IntKind.signed, IntKind.bits] at this
      omega
    refine ⟨⟨some x, len, cap⟩, (zs.take len).map Int.toNat, hcs, by simp; omega, hl, by unfold maxLen at hm; exact (by omega : cap ≤ 9223372036854775807), fun h0 => ?_⟩
    have hpos : 0 < len := by
      rw [us_len, List.length_map, List.length_take] at h0
      omega
    obtain ⟨b, off, spot⟩ := x
    have hc0 := hcell 0 (by omega)
    have hspot : spot = none := by simpa [Addr.add] using World.cell?_spot hc0
    subst hspot
    refine ⟨b, off, rfl, fun j u hu => ?_⟩
    have hj : j < len := by
      have := (List.getElem?_eq_some_iff.1 hu).1
      rw [us_len, List.length_map, List.length_take] at this
      omega
    have hc := hcell j (by omega)
    rw [Addr.add_lit] at hc
    rw [hc, ← hu, us_get _ _ (by simp; omega)]
    have hzj := hb (zs.getD j 0) (by simp [List.getD, show j < zs.length by omega])
    simp [List.getD, show j < zs.length by omega, show j < len from hj] at hzj ⊢
    omega

theorem bool_cell {P : Program} {H : Type} {enc : TypeId × Value → H} {W : World} {fuel t : Nat} {v : Value} {y : DataW H × List MemPlace} (he : P.underlying t = some .bool)
    (h : DataW.trod enc P W 0 (fun _ => true) true fuel t [v] = some y) : ∃ z, v = .bool z := by
  obtain ⟨z, hz, _⟩ := DataW.trod_bool he h
  injection hz with hz
  exact ⟨z, hz⟩

theorem open_heap {H : Type} {enc : TypeId × Value → H} {W : World} {base : Nat} {r : Reach} {v : Value} {d : DataW H} {p : List MemPlace}
    (hval : Value.okWide Try.prog W r base 50 v) (h : DataW.Trod enc Try.prog W 0 (fun _ => true) true 50 v d p) :
    ∃ (u : Hv) (F : Hp), v = .agg u.cells ∧ u.Is W F ∧ (0 ≤ u.base ∧ u.base < 18446744073709551616) ∧ (-9223372036854775808 ≤ u.cap ∧ u.cap ≤ 9223372036854775807) ∧ (-9223372036854775808 ≤ u.tu ∧ u.tu ≤ 9223372036854775807) := by
  have hs := Try.underlying50
  have hone : ∀ fs, Try.prog.underlying 50 = some (.struct fs) → oneCellFields Try.prog fs = true := fun fs e => by
    rw [hs] at e; injection e with e; injection e with e; subst e; kernel_rfl
  obtain ⟨cs, rfl, hsz⟩ := okWide_struct hs hval
  have hC : Try.prog.cellsOf 50 = 10 := by kernel_rfl
  obtain ⟨cl⟩ := cs
  match cl, hsz.trans hC with
  | [c0, c1, c2, c3, c4, c5, c6, c7, c8, c9], _ =>
    obtain ⟨fuel, hf⟩ := h
    obtain ⟨xs, n, _, hx, _, hlen, hg⟩ := DataW.trod_struct hs hf
    have hone' := hone _ hs
    have e3 : Try.prog.cellsOf 3 = 1 := by kernel_rfl
    have e22 : Try.prog.cellsOf 22 = 1 := by kernel_rfl
    have e4 : Try.prog.cellsOf 4 = 1 := by kernel_rfl
    have e40 : Try.prog.cellsOf 40 = 1 := by kernel_rfl
    obtain ⟨o0, k0⟩ := hone_of hone' 0 _ rfl
    obtain ⟨o1, k1⟩ := hone_of hone' 1 _ rfl
    obtain ⟨o2, k2⟩ := hone_of hone' 2 _ rfl
    obtain ⟨o3, k3⟩ := hone_of hone' 3 _ rfl
    obtain ⟨o4, k4⟩ := hone_of hone' 4 _ rfl
    obtain ⟨o5, k5⟩ := hone_of hone' 5 _ rfl
    obtain ⟨o6, k6⟩ := hone_of hone' 6 _ rfl
    obtain ⟨o7, k7⟩ := hone_of hone' 7 _ rfl
    obtain ⟨o8, k8⟩ := hone_of hone' 8 _ rfl
    obtain ⟨o9, k9⟩ := hone_of hone' 9 _ rfl
    match xs, hlen with
    | [y0, y1, y2, y3, y4, y5, y6, y7, y8, y9], _ =>
      obtain ⟨z0, rfl, w0⟩ := int_cell (k := .u64) (y := y0) Try.underlying22 (by simpa [Value.cells, o0, k0, e3, e22, e4, e40] using hg 0 _ rfl)
      obtain ⟨z1, rfl, w1⟩ := int_cell (k := .i64) (y := y1) Try.underlying3 (by simpa [Value.cells, o1, k1, e3, e22, e4, e40] using hg 1 _ rfl)
      obtain ⟨z2, rfl, w2⟩ := int_cell (k := .i64) (y := y2) Try.underlying3 (by simpa [Value.cells, o2, k2, e3, e22, e4, e40] using hg 2 _ rfl)
      obtain ⟨z3, rfl⟩ := bool_cell (y := y3) Try.underlying4 (by simpa [Value.cells, o3, k3, e3, e22, e4, e40] using hg 3 _ rfl)
      obtain ⟨z4, rfl, w4⟩ := int_cell (k := .i64) (y := y4) Try.underlying3 (by simpa [Value.cells, o4, k4, e3, e22, e4, e40] using hg 4 _ rfl)
      obtain ⟨s5, L5, rfl, i5⟩ := slice_cell (y := y5) (by simpa [Value.cells, o5, k5, e3, e22, e4, e40] using hg 5 _ rfl)
      obtain ⟨s6, L6, rfl, i6⟩ := slice_cell (y := y6) (by simpa [Value.cells, o6, k6, e3, e22, e4, e40] using hg 6 _ rfl)
      obtain ⟨s7, L7, rfl, i7⟩ := slice_cell (y := y7) (by simpa [Value.cells, o7, k7, e3, e22, e4, e40] using hg 7 _ rfl)
      obtain ⟨s8, L8, rfl, i8⟩ := slice_cell (y := y8) (by simpa [Value.cells, o8, k8, e3, e22, e4, e40] using hg 8 _ rfl)
      obtain ⟨s9, L9, rfl, i9⟩ := slice_cell (y := y9) (by simpa [Value.cells, o9, k9, e3, e22, e4, e40] using hg 9 _ rfl)
      exact ⟨⟨z0, z1, z2, z3, z4, s5, s6, s7, s8, s9⟩, ⟨z0, z1, z2, z3, z4, L5, L6, L7, L8, L9⟩, rfl, ⟨⟨rfl, rfl, rfl, rfl, rfl⟩, i5, i6, i7, i8, i9⟩, u64_b w0, i64_b w1, i64_b w2⟩
end Go.Proofs.Ytappejihclmjmaa
