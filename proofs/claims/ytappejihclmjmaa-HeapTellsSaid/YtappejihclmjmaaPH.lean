/-
  Contracts of layer 7: Find of the program. Conditions: integers that fit.
-/
import Derived.Test.YtappejihclmjmaaPG
namespace Go.Proofs.Ytappejihclmjmaa
open Go.RowKit
attribute [local go_sem ↓] Go.wp_at_zero Go.wp_at_succ

/-- After k parts: none of them has the address. -/
def FndRel (l : Lay) (y : Int) (w : World) (i : Value) (wr : World) : Prop := ∃ k : Nat, k ≤ 4 ∧ i = .int .i64 (k : Int) ∧ (∀ p, 1 ≤ p → p ≤ k → ¬ l.has p y) ∧ Below w.heap.size w wr

theorem fnd_none (l : Lay) (y : Int) (h : ∀ p, 1 ≤ p → p ≤ 4 → ¬ l.has p y) : fndK l y = 0 := by
  simp [fndK, h 1 (by omega) (by omega), h 2 (by omega) (by omega), h 3 (by omega) (by omega), h 4 (by omega) (by omega)]
theorem fnd_step {l : Lay} {y : Int} {k : Nat} (h : ∀ p, 1 ≤ p → p ≤ k → ¬ l.has p y) (hk : ¬ l.has (k + 1) y) : ∀ p, 1 ≤ p → p ≤ k + 1 → ¬ l.has p y := fun p h1 h2 => by
  by_cases e : p = k + 1
  · rw [e]; exact hk
  · exact h p h1 (by omega)

/-- The value of Find. -/
def fndV (l : Lay) (y : Int) : Value := .tuple #[.agg #[.int .i64 (fndP l y), .int .i64 (fndI l y)], .int .i64 (fndE l y)]

set_option maxRecDepth 100000 in
set_option maxHeartbeats 1000000 in
theorem find_any (l : Lay) (y : Int) (w : World) (wf : l.Wf) (hy1 : 0 ≤ y) (hy2 : y < 18446744073709551616) :
    Calls Try.prog 26 #[.agg l.cells, .int .u64 y] w (RetB (fndV l y) w) := by
  by_cases h : l.Ok
  · have HR := Lib.hid fun W => right_yes l W wf h
    have HS := Lib.hid fun W => spans_any l W h
    have HIX := Lib.hid fun p a b W => spans_index l p a b W
    have HAB := Lib.hid fun p a b => at_b l h p a b
    have HK := Lib.hid fun p a b => fndK_of l h p a b y
    have HP := Lib.hid (show fndV l y = .tuple #[.agg #[.int .i64 (fndK l y : Int), .int .i64 (if fndK l y = 0 then 0 else y - (l.base + l.off (fndK l y)))], .int .i64 (if fndK l y = 0 then 6 else 0)] by
      simp only [fndV, fndP, fndI, fndE, if_pos h])
    obtain ⟨sp, hsp⟩ : ∃ sp, sp = l.spans := ⟨_, rfl⟩
    rw [← hsp] at HS HIX
    obtain ⟨v, hv⟩ : ∃ v, v = fndV l y := ⟨_, rfl⟩
    rw [← hv] at HP ⊢
    obtain ⟨cs, hcs⟩ : ∃ cs, cs = l.cells := ⟨_, rfl⟩
    rw [Lay.cells] at hcs
    obtain ⟨base, hba⟩ : ∃ x, x = l.base := ⟨_, rfl⟩
    obtain ⟨cap, hca⟩ : ∃ x, x = l.cap := ⟨_, rfl⟩
    obtain ⟨tu, hto⟩ : ∃ x, x = l.to := ⟨_, rfl⟩
    obtain ⟨low, hlo⟩ : ∃ x, x = l.low := ⟨_, rfl⟩
    obtain ⟨high, hhi⟩ : ∃ x, x = l.high := ⟨_, rfl⟩
    obtain ⟨old, hol⟩ : ∃ x, x = l.old := ⟨_, rfl⟩
    obtain ⟨far, hfa⟩ : ∃ x, x = l.far := ⟨_, rfl⟩
    rw [Lay.cells, ← hba, ← hca, ← hto, ← hlo, ← hhi, ← hol, ← hfa] at HR HS ⊢
    clear wf h hsp hv hcs cs hba hca hto hlo hhi hol hfa
    go_enter Try.func26, Try.ntmps26
    go_wp2_with fail
    refine (HR.out _).mono ?_
    intro e w1 hr
    obtain ⟨rfl, x, rfl⟩ := hr.later
    have hz : w.heap.size + 1 + 1 ≤ x.w.heap.size := by have := x.below.size; simp at this; omega
    go_wp2_with fail
    refine (HS.out _).mono ?_
    intro e w1 hr1
    obtain ⟨rfl, x1, rfl⟩ := hr1.later
    have hz1 : w.heap.size + 1 + 1 ≤ x1.w.heap.size := by have := x1.below.size; omega
    have hb1 : Below w.heap.size w x1.w := bl_step (bl_step (bl_alloc (bl_alloc (bl_refl w) _) _) x.below) x1.below
    have hp0 : x1.w.cell? ⟨w.heap.size + 1, 0, none⟩ = some (.int .i64 0) := by
      rw [x1.cell _ _ (by omega), x.cell _ _ (by simp)]; simp [go_sem]
    have hp1 : x1.w.cell? ⟨w.heap.size + 1, 1, none⟩ = some (.int .i64 0) := by
      rw [x1.cell _ _ (by omega), x.cell _ _ (by simp)]; simp [go_sem]
    have hq0 : x1.w.frozen? ⟨w.heap.size + 1, 0, none⟩ = false := by
      rw [x1.frozen _ _ (by omega), x.frozen _ _ (by simp)]; simp [go_sem]
    have hq1 : x1.w.frozen? ⟨w.heap.size + 1, 1, none⟩ = false := by
      rw [x1.frozen _ _ (by omega), x.frozen _ _ (by simp)]; simp [go_sem]
    clear hr hr1
    revert hz1 hb1 hp0 hp1 hq0 hq1
    obtain ⟨W1, hW1⟩ : ∃ W1, W1 = x1.w := ⟨_, rfl⟩
    rw [← hW1]
    intro hz1 hb1 hp0 hp1 hq0 hq1
    clear hW1 x1 hz x
    have hz2 : w.heap.size < W1.heap.size := by omega
    have hz3 : w.heap.size + 1 < W1.heap.size := by omega
    go_wp2_with fail
    go_loopw [14] (fun i wr => FndRel l y W1 i wr) (fun i _ => 4 - (intOf i).toNat)
    case atStart => exact ⟨0, by omega, rfl, fun p h1 h2 => by omega, bl_refl _⟩
    case round =>
      obtain ⟨k, hk, rfl, hno, hb⟩ := hrel
      have hbw : Below w.heap.size w wr := bl_step hb1 hb
      have gp0 := (below_cell hb _ 0 hz3).trans hp0
      have gp1 := (below_cell hb _ 1 hz3).trans hp1
      have gq0 := (below_frozen hb _ 0 hz3).trans hq0
      have gq1 := (below_frozen hb _ 1 hz3).trans hq1
      have gz : W1.heap.size ≤ wr.heap.size := hb.size
      have gz3 : w.heap.size + 1 < wr.heap.size := by omega
      have hne : w.heap.size + 1 ≠ wr.heap.size := by omega
      by_cases hlt : k < 4
      · have hix := fun W => HIX.out ((k : Int) + 1) (by omega) (by omega) W
        have hab := HAB.out (k + 1) (by omega) (by omega)
        have hhas : l.has (k + 1) y ↔ (l.at_ (k + 1) ≤ y ∧ y < l.at_ (k + 1) + l.size (k + 1)) := Iff.rfl
        have hstep := fun h => fnd_step (k := k) hno h
        have hK := HK.out (k + 1) (by omega) (by omega)
        have hval : v = .tuple #[.agg #[.int .i64 (fndK l y : Int), .int .i64 (if fndK l y = 0 then 0 else y - l.at_ (fndK l y))], .int .i64 (if fndK l y = 0 then 6 else 0)] := HP.out
        rw [show ((k : Int) + 1).toNat = k + 1 by omega, show (k : Int) + 1 - 1 = (k : Int) by omega] at hix
        have hfin : l.has (k + 1) y → v = .tuple #[.agg #[.int .i64 ((k : Int) + 1), .int .i64 (y - l.at_ (k + 1))], .int .i64 0] := fun hh => by
          rw [hval, hK hh, if_neg (by omega), if_neg (by omega), Int.natCast_succ]
        obtain ⟨a, ha⟩ : ∃ a, a = l.at_ (k + 1) := ⟨_, rfl⟩
        obtain ⟨n, hn⟩ : ∃ n, n = l.size (k + 1) := ⟨_, rfl⟩
        rw [← ha, ← hn] at hix hab hhas
        rw [← ha] at hfin
        obtain ⟨hab1, hab2, hab3, hab4⟩ := hab
        have HHAS := Lib.hid hhas
        have HSTEP := Lib.hid hstep
        have HFIN := Lib.hid hfin
        clear hhas hstep hK hval hfin ha hn hno
        by_cases i1 : y < a
        · go_wp2
          go_roundw
          case rel => exact ⟨k + 1, by omega, by go_num, HSTEP.out (fun hh => by have := HHAS.out.1 hh; omega), bl_alloc hb _⟩
          case measure => simp [intOf]; omega
        · have i1 : a ≤ y := by omega
          by_cases i2 : a + n ≤ y
          · have i3 : n ≤ y - a := by omega
            go_wp2
            go_roundw
            case rel => exact ⟨k + 1, by omega, by go_num, HSTEP.out (fun hh => by have := HHAS.out.1 hh; omega), bl_alloc hb _⟩
            case measure => simp [intOf]; omega
          · have i3 : y - a < n := by omega
            have hv := HFIN.out (HHAS.out.2 (by omega))
            rw [hv]
            clear hv
            go_wp2
            exact bodyPost_ret (v := .tuple #[.agg #[.int .i64 ((k : Int) + 1), .int .i64 (y - a)], .int .i64 0]) (by simp [results, Try.results26, go_sem, gp0, gp1, gz3]) rfl
              ⟨rfl, bl_alloc ((hbw.setCell (by simp) _).setCell (by simp) _) _⟩
      · obtain rfl : k = 4 := by omega
        have hK := fnd_none l y hno
        have hval : v = .tuple #[.agg #[.int .i64 (fndK l y : Int), .int .i64 (if fndK l y = 0 then 0 else y - l.at_ (fndK l y))], .int .i64 (if fndK l y = 0 then 6 else 0)] := HP.out
        rw [hK, if_pos rfl, if_pos rfl] at hval
        have HV := Lib.hid hval
        clear hval hK hno
        go_wp2
        exact bodyPost_ret (v := .tuple #[.agg #[.int .i64 0, .int .i64 0], .int .i64 6]) (by simp [results, Try.results26, go_sem, gp0, gp1]) rfl
          ⟨by rw [HV.out]; rfl, (hbw.setCell (by simp) _).setCell (by simp) _⟩
  · have HR := Lib.hid fun W => right_no l W wf h
    rw [show fndV l y = .tuple #[.agg #[.int .i64 0, .int .i64 0], .int .i64 1] by simp only [fndV, fndP, fndI, fndE, if_neg h]]
    obtain ⟨base, cap, tu, low, high, old, far⟩ := l
    simp only [Lay.cells] at HR ⊢
    clear wf h
    go_enter Try.func26, Try.ntmps26
    go_wp2_with fail
    refine (HR.out _).mono ?_
    intro e w1 hr
    obtain ⟨rfl, x, rfl⟩ := hr.later
    go_wp2
    exact bodyPost_ret (v := .tuple #[.agg #[.int .i64 0, .int .i64 0], .int .i64 1]) (by simp [results, Try.results26, go_sem]) rfl
      ⟨rfl, ((bl_step (bl_alloc (bl_alloc (bl_refl w) _) _) x.below).setCell (by simp) _).setCell (by simp) _⟩
end Go.Proofs.Ytappejihclmjmaa
