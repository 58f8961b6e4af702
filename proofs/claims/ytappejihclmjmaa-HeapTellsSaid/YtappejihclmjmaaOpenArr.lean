/-
  An array of integers that came in by value, opened as a list. No condition.
-/
import Derived.Test.YtappejihclmjmaaOpen
namespace Go.Proofs.Ytappejihclmjmaa
open Go.ChangeShapes Go.WideShapes Go.ChangeAt Go.RowKit

def numOf' : Value → Int | .int _ z => z | _ => 0

theorem open_arr {P : Program} {H : Type} {enc : TypeId × Value → H} {W : World} {base : Nat} {r : Reach} {t e n : Nat} {k : IntKind} {v : Value} {d : DataW H} {p : List MemPlace}
    (ht : P.underlying t = some (.array n e)) (he : P.underlying e = some (.int k)) (hce : P.cellsOf e = 1) (hct : P.cellsOf t = n)
    (hval : Value.okWide P W r base t v) (h : DataW.Trod enc P W 0 (fun _ => true) true t v d p) :
    ∃ (xs : Array Value) (zs : List Int), v = .agg xs ∧ xs.toList = zs.map (Value.int k) ∧ zs.length = n ∧ ∀ z ∈ zs, (Lit.int k z).wf = true := by
  obtain ⟨xs, rfl, hsz, _⟩ : ∃ cs, v = .agg cs ∧ cs.size = P.cellsOf t ∧ Row.okWide P W r base t cs := by
    have := hval
    simpa [Value.okWide, ht] using this
  rw [hct] at hsz
  obtain ⟨fuel, hf⟩ := h
  obtain ⟨ys, m, rfl, _, hl, hyl, hel⟩ := DataW.trod_array ht hf
  have each : ∀ i, i < n → ∃ z, xs.toList[i]? = some (.int k z) ∧ (Lit.int k z).wf = true := by
    intro i hi
    have hy := hel i hi
    rw [hce, Nat.mul_one, List.getElem?_eq_getElem (by omega)] at hy
    obtain ⟨z, hz, _, hw⟩ := DataW.trod_int he hy
    refine ⟨z, ?_, hw⟩
    have h1 : ((Value.agg xs).cells.toList.drop i).take 1 = [.int k z] := hz
    simp only [Value.cells] at h1
    have h2 := congrArg (fun l : List Value => l[0]?) h1
    simpa [List.getElem?_take, List.getElem?_drop] using h2
  refine ⟨xs, xs.toList.map numOf', rfl, ?_, by simpa using hsz, ?_⟩
  · apply List.ext_getElem?
    intro i
    by_cases hi : i < n
    · obtain ⟨z, hz, _⟩ := each i hi
      rw [List.map_map, List.getElem?_map, hz]
      rfl
    · rw [List.getElem?_eq_none (by simp; omega), List.getElem?_eq_none (by simp; omega)]
  · intro z hz
    obtain ⟨u, hu, rfl⟩ := List.mem_map.1 hz
    obtain ⟨i, hi, rfl⟩ := List.mem_iff_getElem.1 hu
    obtain ⟨z, hz, hw⟩ := each i (by simpa [hsz] using hi)
    rw [List.getElem?_eq_getElem hi] at hz
    injection hz with hz
    rw [hz]
    exact hw

/-- Eight bytes. -/
theorem bytes_of (xs : Array Value) (zs : List Int) (hx : xs.toList = zs.map (Value.int .u8)) (hw : ∀ z ∈ zs, (Lit.int .u8 z).wf = true) : ∃ l : List UInt8, xs.toList = bs l ∧ l.length = zs.length := by
  refine ⟨zs.map fun z => UInt8.ofNat z.toNat, ?_, by simp⟩
  rw [hx, bs, List.map_map]
  refine List.map_congr_left fun z hz => ?_
  obtain ⟨n, rfl, hn⟩ := u8_n (hw z hz)
  simp only [Function.comp, Int.toNat_natCast, UInt8.toNat_ofNat']
  rw [Nat.mod_eq_of_lt hn]
end Go.Proofs.Ytappejihclmjmaa
