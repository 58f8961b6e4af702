/-
  The fixed calls of layer 10's awake, in plain words. No condition.
-/
import Derived.Test.YtappejihclmjmaaHI
namespace Go.Proofs.Ytappejihclmjmaa
open Go.RowKit

def ha0 : Hp := ⟨10, 5, 1, false, 0, [7, 8], [], [], [], []⟩
theorem ha0_lay : ha0.lay = ⟨10, 5, 1, 2, 0, 0, 0⟩ := rfl
theorem ha0_ok : ha0.lay.Ok := by rw [ha0_lay]; simp [Lay.Ok]
theorem ha0_16 : fndK ha0.lay 16 = 1 := fndK_of _ ha0_ok 1 (by omega) (by omega) 16 (by rw [ha0_lay]; unfold Lay.has; simp [Lay.off, Lay.size])
theorem ha0_15 : fndK ha0.lay 15 = 1 := fndK_of _ ha0_ok 1 (by omega) (by omega) 15 (by rw [ha0_lay]; unfold Lay.has; simp [Lay.off, Lay.size])
theorem ha0_17 : fndK ha0.lay 17 = 0 := by rw [ha0_lay]; simp [fndK, Lay.has, Lay.off, Lay.size]
theorem aw10_1 : rdW ha0 16 = 8 ∧ fndE ha0.lay 16 = 0 := by
  have hi : fndI ha0.lay 16 = 1 := by rw [fndI, if_pos ha0_ok, ha0_16, if_neg (by omega), ha0_lay]; simp [Lay.off]
  refine ⟨?_, by rw [fndE, if_pos ha0_ok, ha0_16, if_neg (by omega)]⟩
  rw [rdW, if_pos ⟨ha0_ok, by rw [ha0_16]; omega⟩, ha0_16, hi]; rfl
theorem aw10_2 : wrR ha0 15 9 = ⟨10, 5, 1, false, 0, [9, 8], [], [], [], []⟩ ∧ fndE ha0.lay 15 = 0 := by
  have hi : fndI ha0.lay 15 = 0 := by rw [fndI, if_pos ha0_ok, ha0_15, if_neg (by omega), ha0_lay]; simp [Lay.off]
  refine ⟨?_, by rw [fndE, if_pos ha0_ok, ha0_15, if_neg (by omega)]⟩
  rw [wrR, if_pos ⟨ha0_ok, by rw [ha0_15]; omega⟩, wrH, ha0_15, hi]; rfl
theorem aw10_3 : fndE ha0.lay 17 = 6 := by rw [fndE, if_pos ha0_ok, ha0_17, if_pos rfl]
theorem hpz_no : ¬ hpz.lay.Ok := fun h => by have := h.1; simp [hpz, Hp.lay] at this
theorem aw10_4 : wrR hpz 1 1 = hpz ∧ fndE hpz.lay 1 = 1 := ⟨by rw [wrR, if_neg (fun h => hpz_no h.1)], by rw [fndE, if_neg hpz_no]⟩
theorem aw10_5 : newE 3 4 2 = 0 ∧ newH 3 4 2 = ⟨3, 4, 0, false, 0, [], [], [], [], [0, 0]⟩ := by
  have h : newE 3 4 2 = 0 := by simp [newE]
  exact ⟨h, by rw [newH, if_pos h]; rfl⟩
theorem aw10_6 : newE 0 4 2 = 1 := by simp [newE]
theorem aw10_7 : newE 9223372036854775808 4 2 = 9 := by simp [newE]
theorem hpz_lay_wf : hpz.lay.Wf := by simp [Lay.Wf, hpz, Hp.lay]
theorem ha0_wf : ha0.lay.Wf := ok_wf ha0_ok
theorem two_is (w : World) (g : Nat) (a b : Nat) (h : TwoAt w g (.int .u64 (a : Int)) (.int .u64 (b : Int))) : (⟨some ⟨g, 0, none⟩, 2, 2⟩ : Sl).Is w [a, b] := by
  refine ⟨rfl, Nat.le_refl _, by show 2 ≤ 9223372036854775807; omega, fun _ => ⟨g, 0, rfl, fun j u hu => ?_⟩⟩
  rw [Nat.zero_add]
  match j, hu with
  | 0, hu => simp [us] at hu; subst hu; exact h.1
  | 1, hu => simp [us] at hu; subst hu; exact h.2
end Go.Proofs.Ytappejihclmjmaa
