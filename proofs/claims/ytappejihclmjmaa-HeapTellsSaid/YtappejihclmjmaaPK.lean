/-
  Contracts of layer 7: Find of the document. Conditions: integers that fit.
-/
import Derived.Test.YtappejihclmjmaaPJ
namespace Go.Proofs.Ytappejihclmjmaa
open Go.RowKit

/-- Ahead of part p: none has the address. -/
def RFndRel (l : Lay) (y : Int) (w : World) (i : Value) (wr : World) : Prop := ∃ p : Int, 1 ≤ p ∧ p ≤ 5 ∧ i = .int .i64 p ∧ (∀ q : Nat, 1 ≤ q → (q : Int) < p → ¬ l.has q y) ∧ Below w.heap.size w wr
theorem rfnd_step {l : Lay} {y p : Int} (h : ∀ q : Nat, 1 ≤ q → (q : Int) < p → ¬ l.has q y) (h1 : 1 ≤ p) (hk : ¬ l.has p.toNat y) : ∀ q : Nat, 1 ≤ q → (q : Int) < p + 1 → ¬ l.has q y := fun q h2 h3 => by
  by_cases e : (q : Int) = p
  · rw [show q = p.toNat by omega]; exact hk
  · exact h q h2 (by omega)

set_option maxRecDepth 100000 in
set_option maxHeartbeats 1000000 in
theorem rfind_any (l : Lay) (y : Int) (w : World) (wf : l.Wf) (hy1 : 0 ≤ y) (hy2 : y < 18446744073709551616) :
    Calls Try.prog 27 #[.agg l.cells, .int .u64 y] w (RetB (fndV l y) w) := by
  by_cases h : l.Ok
  · have HR := Lib.hid fun W => rright_yes l W wf h
    have HS := Lib.hid fun p W a b => addresses_yes l p W h a b
    have HAB := Lib.hid fun p a b => at_b l h p a b
    have HK := Lib.hid fun p a b => fndK_of l h p a b y
    have HP := Lib.hid (show fndV l y = .tuple #[.agg #[.int .i64 (fndK l y : Int), .int .i64 (if fndK l y = 0 then 0 else y - (l.base + l.off (fndK l y)))], .int .i64 (if fndK l y = 0 then 6 else 0)] by
      simp only [fndV, fndP, fndI, fndE, if_pos h])
    obtain ⟨v, hv⟩ : ∃ v, v = fndV l y := ⟨_, rfl⟩
    rw [← hv] at HP ⊢
    obtain ⟨cs, hcs⟩ : ∃ cs, cs = l.cells := ⟨_, rfl⟩
    rw [Lay.cells] at hcs
    obtain ⟨base, hba⟩ : ∃ x, x = l.base := ⟨_, rfl⟩
    obtain ⟨cap, hca⟩ : ∃ x, x = l.cap := ⟨_, rfl⟩
    obtain ⟨tu, hto⟩ : ∃ x, x = l.to := ⟨_, rfl⟩
    obtain ⟨low, hlo⟩ : ∃ x, x = l.low := ⟨_, rfl⟩
    obtain ⟨high, hhi⟩ : ∃ x, x = l.high := ⟨_, rfl⟩
    obtain ⟨old, hol⟩ : ∃ x, x = l.old := ⟨_, rfl⟩
    obtain ⟨far, hfa⟩ : ∃ x, x = l.far := ⟨_, rfl⟩
    rw [Lay.cells, ← hba, ← hca, ← hto, ← hlo, ← hhi, ← hol, ← hfa] at HR HS ⊢
    clear wf h hv hcs cs hba hca hto hlo hhi hol hfa
    go_enter Try.func27, Try.ntmps27
    go_wp2_with fail
    refine (HR.out _).mono ?_
    intro e w1 hr
    obtain ⟨rfl, x, rfl⟩ := hr.later
    have hz : w.heap.size + 1 + 1 ≤ x.w.heap.size := by have := x.below.size; simp at this; omega
    have hb1 : Below w.heap.size w x.w := bl_step (bl_alloc (bl_alloc (bl_refl w) _) _) x.below
    have hp0 : x.w.cell? ⟨w.heap.size + 1, 0, none⟩ = some (.int .i64 0) := by
      rw [x.cell _ _ (by simp)]; simp [go_sem]
    have hp1 : x.w.cell? ⟨w.heap.size + 1, 1, none⟩ = some (.int .i64 0) := by
      rw [x.cell _ _ (by simp)]; simp [go_sem]
    have hq0 : x.w.frozen? ⟨w.heap.size + 1, 0, none⟩ = false := by
      rw [x.frozen _ _ (by simp)]; simp [go_sem]
    have hq1 : x.w.frozen? ⟨w.heap.size + 1, 1, none⟩ = false := by
      rw [x.frozen _ _ (by simp)]; simp [go_sem]
    have hL : ∀ o v, o < 7 → (w.alloc (.cells #[.int .u64 base, .int .i64 cap, .int .i64 tu, .int .i64 low, .int .i64 high, .int .i64 old, .int .i64 far] 24)).cell? ⟨w.heap.size, o, none⟩ = some v → x.w.cell? ⟨w.heap.size, o, none⟩ = some v := fun o v _ h => by
      rw [x.cell _ _ (by simp; omega), World.cell?_alloc_lt _ _ _ (by simp)]; exact h
    have hc0 := hL 0 (.int .u64 base) (by omega) (by simp [go_sem])
    have hc1 := hL 1 (.int .i64 cap) (by omega) (by simp [go_sem])
    have hc2 := hL 2 (.int .i64 tu) (by omega) (by simp [go_sem])
    have hc3 := hL 3 (.int .i64 low) (by omega) (by simp [go_sem])
    have hc4 := hL 4 (.int .i64 high) (by omega) (by simp [go_sem])
    have hc5 := hL 5 (.int .i64 old) (by omega) (by simp [go_sem])
    have hc6 := hL 6 (.int .i64 far) (by omega) (by simp [go_sem])
    clear hr hL
    revert hz hb1 hp0 hp1 hq0 hq1 hc0 hc1 hc2 hc3 hc4 hc5 hc6
    obtain ⟨W1, hW1⟩ : ∃ W1, W1 = x.w := ⟨_, rfl⟩
    rw [← hW1]
    intro hz1 hb1 hp0 hp1 hq0 hq1 hc0 hc1 hc2 hc3 hc4 hc5 hc6
    clear hW1 x
    have hz2 : w.heap.size < W1.heap.size := by omega
    have hz3 : w.heap.size + 1 < W1.heap.size := by omega
    go_wp2_with fail
    go_loopw [7] (fun i wr => RFndRel l y W1 i wr) (fun i _ => (5 - intOf i).toNat)
    case atStart => exact ⟨1, by omega, by omega, rfl, fun q h1 h2 => by omega, bl_refl _⟩
    case round =>
      obtain ⟨p, hp, hp5, rfl, hno, hb⟩ := hrel
      have hbw : Below w.heap.size w wr := bl_step hb1 hb
      have gp0 := (below_cell hb _ 0 hz3).trans hp0
      have gp1 := (below_cell hb _ 1 hz3).trans hp1
      have gq0 := (below_frozen hb _ 0 hz3).trans hq0
      have gq1 := (below_frozen hb _ 1 hz3).trans hq1
      have gc0 := (below_cell hb _ 0 hz2).trans hc0
      have gc1 := (below_cell hb _ 1 hz2).trans hc1
      have gc2 := (below_cell hb _ 2 hz2).trans hc2
      have gc3 := (below_cell hb _ 3 hz2).trans hc3
      have gc4 := (below_cell hb _ 4 hz2).trans hc4
      have gc5 := (below_cell hb _ 5 hz2).trans hc5
      have gc6 := (below_cell hb _ 6 hz2).trans hc6
      have gz : W1.heap.size ≤ wr.heap.size := hb.size
      have gz3 : w.heap.size + 1 < wr.heap.size := by omega
      have gz2 : w.heap.size < wr.heap.size := by omega
      by_cases hlt : p ≤ 4
      · have hs := fun W => HS.out p W hp hlt
        have hab := HAB.out p.toNat (by omega) (by omega)
        have hhas : l.has p.toNat y ↔ (l.at_ p.toNat ≤ y ∧ y < l.at_ p.toNat + l.size p.toNat) := Iff.rfl
        have hstep := fun h => rfnd_step (p := p) hno hp h
        have hK := HK.out p.toNat (by omega) (by omega)
        have hval : v = .tuple #[.agg #[.int .i64 (fndK l y : Int), .int .i64 (if fndK l y = 0 then 0 else y - l.at_ (fndK l y))], .int .i64 (if fndK l y = 0 then 6 else 0)] := HP.out
        have hfin : l.has p.toNat y → v = .tuple #[.agg #[.int .i64 p, .int .i64 (y - l.at_ p.toNat)], .int .i64 0] := fun hh => by
          rw [hval, hK hh, if_neg (by omega), if_neg (by omega), Int.toNat_of_nonneg (by omega)]
        obtain ⟨a, ha⟩ : ∃ a, a = l.at_ p.toNat := ⟨_, rfl⟩
        obtain ⟨n, hn⟩ : ∃ n, n = l.size p.toNat := ⟨_, rfl⟩
        rw [← ha, ← hn] at hs hab hhas
        rw [← ha] at hfin
        obtain ⟨hab1, hab2, hab3, hab4⟩ := hab
        have HHAS := Lib.hid hhas
        have HSTEP := Lib.hid hstep
        have HFIN := Lib.hid hfin
        have HSS := Lib.hid hs
        clear hhas hstep hK hval hfin ha hn hno hs
        have hi3 : y < a ∨ (a ≤ y ∧ a + n ≤ y) ∨ (a ≤ y ∧ y < a + n) := by omega
        rcases hi3 with i1 | ⟨i1, i2⟩ | ⟨i1, i2⟩
        · go_wp2_with fail
          refine (HSS.out _).mono ?_
          intro e w1 hr
          obtain ⟨rfl, x1, rfl⟩ := hr.later
          go_wp2
          go_roundw
          case rel => exact ⟨p + 1, by omega, by omega, rfl, HSTEP.out (fun hh => by have := HHAS.out.1 hh; omega), bl_step hb x1.below⟩
          case measure => simp [intOf]; omega
        · go_wp2_with fail
          refine (HSS.out _).mono ?_
          intro e w1 hr
          obtain ⟨rfl, x1, rfl⟩ := hr.later
          go_wp2
          go_roundw
          case rel => exact ⟨p + 1, by omega, by omega, rfl, HSTEP.out (fun hh => by have := HHAS.out.1 hh; omega), bl_step hb x1.below⟩
          case measure => simp [intOf]; omega
        · have hv := HFIN.out (HHAS.out.2 (by omega))
          have HV := Lib.hid hv
          clear hv
          have i3 : y - a < n := by omega
          go_wp2_with fail
          refine (HSS.out _).mono ?_
          intro e w1 hr
          obtain ⟨rfl, x1, rfl⟩ := hr.later
          have qp0 := (x1.cell _ 0 gz3).trans gp0
          have qp1 := (x1.cell _ 1 gz3).trans gp1
          go_wp2
          exact bodyPost_ret (v := .tuple #[.agg #[.int .i64 p, .int .i64 (y - a)], .int .i64 0]) (by simp [results, Try.results27, go_sem, qp0, qp1]) rfl
            ⟨by rw [HV.out], ((bl_step hbw x1.below).setCell (by simp) _).setCell (by simp) _⟩
      · obtain rfl : p = 5 := by omega
        have hK := fnd_none l y (fun q h1 h2 => hno q h1 (by omega))
        have hval : v = .tuple #[.agg #[.int .i64 (fndK l y : Int), .int .i64 (if fndK l y = 0 then 0 else y - l.at_ (fndK l y))], .int .i64 (if fndK l y = 0 then 6 else 0)] := HP.out
        rw [hK, if_pos rfl, if_pos rfl] at hval
        have HV := Lib.hid hval
        clear hval hK hno
        go_wp2
        exact bodyPost_ret (v := .tuple #[.agg #[.int .i64 0, .int .i64 0], .int .i64 6]) (by simp [results, Try.results27, go_sem, gp0, gp1]) rfl
          ⟨by rw [HV.out]; rfl, (hbw.setCell (by simp) _).setCell (by simp) _⟩
  · have HR := Lib.hid fun W => rright_no l W wf h
    rw [show fndV l y = .tuple #[.agg #[.int .i64 0, .int .i64 0], .int .i64 1] by simp only [fndV, fndP, fndI, fndE, if_neg h]]
    obtain ⟨base, cap, tu, low, high, old, far⟩ := l
    simp only [Lay.cells] at HR ⊢
    clear wf h
    go_enter Try.func27, Try.ntmps27
    go_wp2_with fail
    refine (HR.out _).mono ?_
    intro e w1 hr
    obtain ⟨rfl, x, rfl⟩ := hr.later
    go_wp2
    exact bodyPost_ret (v := .tuple #[.agg #[.int .i64 0, .int .i64 0], .int .i64 1]) (by simp [results, Try.results27, go_sem]) rfl
      ⟨rfl, ((bl_step (bl_alloc (bl_alloc (bl_refl w) _) _) x.below).setCell (by simp) _).setCell (by simp) _⟩
end Go.Proofs.Ytappejihclmjmaa
