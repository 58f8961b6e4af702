/-
  The walks of the reference's Take, and both Takes in one. Conditions: a text that is not great, as typed.
-/
import Derived.Test.YtdnngacamdohiaaVarC
namespace Go.Proofs.Ytdnngacamdohiaa
open Go.RowKit

def RTvRel (l : List UInt8) (a : Nat) (R : Nat × Nat × Nat) (v p n : Value) : Prop :=
  ∃ k acc : Nat, k ≤ 9 ∧ n = .int .i64 (k : Int) ∧ p = .int .u64 ((128 ^ k : Nat) : Int) ∧ v = .int .u64 (acc : Int) ∧ acc < 128 ^ k ∧ va k acc (l.drop (a + k)) = R

theorem pow_le9 (k : Nat) (h : k ≤ 9) : 128 ^ k ≤ 9223372036854775808 := by
  have h2 : 128 ^ k ≤ 128 ^ 9 := Nat.pow_le_pow_right (by decide) h
  have : (128 : Nat) ^ 9 = 9223372036854775808 := by decide
  omega
theorem dig_le (k d : Nat) (hk : k ≤ 9) (hd : d < 128) (h9 : k = 9 → d < 2) : d * 128 ^ k ≤ 9223372036854775808 := by
  by_cases h : k = 9
  · have := h9 h; subst h; have : (128 : Nat) ^ 9 = 9223372036854775808 := by decide
    omega
  · have h2 : 128 ^ k ≤ 128 ^ 8 := Nat.pow_le_pow_right (by decide) (by omega)
    have h3 : d * 128 ^ k ≤ 127 * 128 ^ 8 := Nat.mul_le_mul (by omega) h2
    have : (128 : Nat) ^ 8 = 72057594037927936 := by decide
    omega
theorem add_digit (acc d k : Nat) (ha : acc < 128 ^ k) (hk : k ≤ 9) (hd : d < 128) (h9 : k = 9 → d < 2) :
    IntKind.u64.wrap ((acc : Int) + IntKind.u64.wrap (((128 ^ k : Nat) : Int) * (d : Int))) = ((acc + d * 128 ^ k : Nat) : Int) := by
  have h1 := pow_le9 k hk
  have h2 := dig_le k d hk hd h9
  rw [show (((128 ^ k : Nat) : Int) * (d : Int)) = ((d * 128 ^ k : Nat) : Int) by rw [Int.natCast_mul, Int.mul_comm]]
  obtain ⟨q, hq⟩ : ∃ q, q = d * 128 ^ k := ⟨_, rfl⟩
  rw [← hq] at h2 ⊢
  rw [show IntKind.u64.wrap (q : Int) = (q : Int) by rw [IntKind.wrap_u64]; omega, IntKind.wrap_u64]
  omega
theorem next_pow (k : Nat) (hk : k ≤ 8) : IntKind.u64.wrap (128 * ((128 ^ k : Nat) : Int)) = ((128 ^ (k + 1) : Nat) : Int) := by
  have h1 := pow_le9 (k + 1) (by omega)
  rw [Nat.pow_succ] at h1 ⊢
  rw [IntKind.wrap_u64]
  omega
theorem rtv_rel {l : List UInt8} {a : Nat} {R : Nat × Nat × Nat} {k acc c : Nat} {X Y Z : Int} (hk : k ≤ 8) (ha : acc < 128 ^ k) (hc : c < 256) (hva : va (k + 1) (acc + (c - 128) * 128 ^ k) (l.drop (a + (k + 1))) = R)
    (hX : X = ((acc + (c - 128) * 128 ^ k : Nat) : Int)) (hY : Y = ((128 ^ (k + 1) : Nat) : Int)) (hZ : Z = (k : Int) + 1) : RTvRel l a R (.int .u64 X) (.int .u64 Y) (.int .i64 Z) := by
  refine ⟨k + 1, acc + (c - 128) * 128 ^ k, by omega, by rw [hZ]; go_num, by rw [hY], by rw [hX], ?_, hva⟩
  have h1 : (c - 128) * 128 ^ k ≤ 127 * 128 ^ k := Nat.mul_le_mul_right _ (by omega)
  rw [Nat.pow_succ]
  omega

theorem tv_end0 {R : Nat × Nat × Nat} {a acc c : Nat} {w : World} {X : Int} (hR : R = (0, acc + c * 128 ^ 0, 0 + 1)) (hX : X = ((acc + c * 128 ^ 0 : Nat) : Int)) :
    RetV R (a : Int) w (.returned (.tuple #[.int .u64 X, .int .i64 ((a : Int) + 1), .int .i64 0])) w := by
  simpa using tv_end (a := a) (w := w) hR hX
theorem mod_lo {c : Nat} (h : c < 128) : ((c : Int) % 128) = (c : Int) := by omega
theorem mod_hi {c : Nat} (h : 128 ≤ c) (h2 : c < 256) : ((c : Int) % 128) = ((c - 128 : Nat) : Int) := by omega

set_option maxRecDepth 100000 in
set_option maxHeartbeats 2000000 in
theorem rvtake_ok (s : ByteArray) (a : Nat) (w : World) (hs : s.size ≤ 1000000) (ha : a ≤ 1000000000000) :
    Calls Try.prog 35 #[.string s, .int .i64 (a : Int)] w (RetV (va 0 0 (s.data.toList.drop a)) (a : Int) w) := by
  obtain ⟨R, hR⟩ : ∃ R, R = va 0 0 (s.data.toList.drop a) := ⟨_, rfl⟩
  rw [← hR]
  have HR := Lib.hid hR
  clear hR
  have hd : decide ((a : Int) < 0) = false := by simp
  go_enter Try.func35, Try.ntmps35
  go_wp2
  go_loop [7, 8, 9] (fun v p n => RTvRel s.data.toList a R v p n) (fun _ _ n => 10 - (intOf n).toNat)
  case atStart => exact ⟨0, 0, by omega, rfl, rfl, rfl, by decide, HR.out.symm⟩
  case round =>
    obtain ⟨k, acc, hk, rfl, rfl, rfl, hacc, hva⟩ := hrel
    have HV := Lib.hid hva
    have HA := Lib.hid hacc
    obtain ⟨P, hP⟩ : ∃ P, P = 128 ^ k := ⟨_, rfl⟩
    have hnp := fun h => next_pow k h
    have had := fun d h1 h2 => add_digit acc d k hacc hk h1 h2
    rw [← hP] at had hnp ⊢
    have HNP := Lib.hid hnp
    have HAD := Lib.hid had
    have HP := Lib.hid hP
    clear hva hacc hnp had hP
    by_cases hlt : a + k < s.size
    · have hby := bget s (a + k) hlt
      obtain ⟨c, hc⟩ : ∃ c, c = (s.data.toList[a + k]?.getD 0) := ⟨_, rfl⟩
      rw [← hc] at hby
      have hc256 := c.toNat_lt
      have HC := Lib.hid hc
      clear hc
      by_cases hform : k = 9 ∧ 2 ≤ c.toNat ∨ 0 < k ∧ c.toNat = 0
      · have hRf : R = (3, 0, 0) := tv_form HV.out hlt HC.out hform
        subst hRf
        clear HV HA HC HR HNP HAD HP
        rcases hform with ⟨rfl, h2⟩ | ⟨h0, h2⟩
        · go_wp2
          go_ret3
          exact ⟨rfl, rfl⟩
        · have hcb : ((c.toNat : Int) == 0) = true := by rw [h2]; rfl
          have h2' : c.toNat ≤ 0 := by omega
          clear h2
          by_cases hk9 : k = 9
          · subst hk9
            go_wp2
            go_ret3
            exact ⟨rfl, rfl⟩
          · have hk8 : k ≤ 8 := by omega
            clear hk9
            go_wp2
            go_ret3
            exact ⟨rfl, rfl⟩
      · by_cases h128 : c.toNat < 128
        · have hRl : R = (0, acc + c.toNat * 128 ^ k, k + 1) := tv_last HV.out hlt HC.out hform h128
          have hadd := HAD.out c.toNat h128 (fun h => by omega)
          rw [← mod_lo h128] at hadd
          have HR2 := Lib.hid hRl
          have HOR := Lib.hid hadd
          clear hRl hadd
          by_cases hk0 : k = 0
          · subst hk0
            have hlt2 : a < s.size := hlt
            have hby2 : s[a]'hlt2 = c := hby
            have hP1 : P = 1 := HP.out
            subst hP1
            have hacc0 : acc = 0 := by have := HA.out; simpa using this
            have HZ := Lib.hid hacc0
            clear hform hby hlt HV HA HC HR HNP HAD HP hacc0
            go_wp2
            · go_ret3
              refine tv_end0 HR2.out ?_
              have h0 := HZ.out
              rw [IntKind.wrap_u64, h0]; omega
            · go_ret3
              refine tv_end0 HR2.out ?_
              have h0 := HZ.out
              rw [IntKind.wrap_u64, h0]; omega
          · have hk1 : 1 ≤ k := by omega
            have hc1 : 1 ≤ c.toNat := by omega
            have hcb : ((c.toNat : Int) == 0) = false := by simp; omega
            by_cases hk9 : k = 9
            · subst hk9
              have hc2 : c.toNat ≤ 1 := by omega
              clear hform hk0 HV HA HC HR HNP HAD
              go_wp2
              go_ret3
              exact tv_end HR2.out (HOR.out.trans (by rw [HP.out]))
            · have hk8 : k ≤ 8 := by omega
              clear hform hk0 hk9 HV HA HC HR HNP HAD
              go_wp2
              go_ret3
              exact tv_end HR2.out (HOR.out.trans (by rw [HP.out]))
        · have h128' : 128 ≤ c.toNat := by omega
          have hk8 : k ≤ 8 := by omega
          have hnext := tv_next HV.out hlt HC.out hform h128'
          have hor := HAD.out (c.toNat - 128) (by omega) (fun h => by omega)
          have hnp := HNP.out hk8
          rw [← mod_hi h128' hc256] at hor
          have hPP := HP.out
          have hcb : ((c.toNat : Int) == 0) = false := by simp; omega
          have HN := Lib.hid hnext
          have HOR := Lib.hid hor
          have HNX := Lib.hid hnp
          clear hform h128 hnext hor hnp HR HNP HAD HC HV
          have HPP := Lib.hid hPP
          clear hPP
          go_wp2
          exact ⟨rtv_rel hk8 HA.out (by omega) HN.out (HOR.out.trans (by rw [HPP.out])) HNX.out rfl, by simp [intOf]; omega⟩
    · have hRs : R = (2, 0, 0) := tv_short HV.out (by simpa using hlt)
      subst hRs
      clear HV HA HR HNP HAD HP
      go_wp2
      go_ret3
      exact ⟨rfl, rfl⟩

/-- The far places and those below zero, of both. -/
def tk (l : List UInt8) (x : Int) : Nat × Nat × Nat := if x < 0 then (1, 0, 0) else va 0 0 (l.drop x.toNat)

set_option maxRecDepth 100000 in
theorem vtake_neg (s : ByteArray) (a : Int) (w : World) (ha : a < 0) :
    Calls Try.prog 34 #[.string s, .int .i64 a] w (RetV (1, 0, 0) a w) := by
  have hd : decide (a < 0) = true := by simp [ha]
  go_enter Try.func34, Try.ntmps34
  go_wp2
  go_step3
  go_wp2
  go_ret3
  exact ⟨rfl, rfl⟩
set_option maxRecDepth 100000 in
theorem rvtake_neg (s : ByteArray) (a : Int) (w : World) (ha : a < 0) :
    Calls Try.prog 35 #[.string s, .int .i64 a] w (RetV (1, 0, 0) a w) := by
  have hd : decide (a < 0) = true := by simp [ha]
  go_enter Try.func35, Try.ntmps35
  go_wp2
  go_ret3
  exact ⟨rfl, rfl⟩
set_option maxRecDepth 100000 in
theorem vtake_far (s : ByteArray) (a : Int) (w : World) (hs : s.size ≤ 1000000) (h0 : 0 ≤ a) (ha : (s.size : Int) ≤ a) :
    Calls Try.prog 34 #[.string s, .int .i64 a] w (RetV (2, 0, 0) a w) := by
  have hd : decide (a < 0) = false := by simp [h0]
  go_enter Try.func34, Try.ntmps34
  go_wp2
  go_step3
  go_wp2
  go_step3
  go_wp2
  go_loop [4, 5, 7] (fun v x n => v = .int .u64 0 ∧ x = .int .i64 a ∧ n = .int .i64 0) (fun _ _ n => 10 - (intOf n).toNat)
  case atStart => exact ⟨rfl, rfl, rfl⟩
  case round =>
    obtain ⟨rfl, rfl, rfl⟩ := hrel
    go_wp2
    go_ret3
    exact ⟨rfl, rfl⟩
set_option maxRecDepth 100000 in
theorem rvtake_far (s : ByteArray) (a : Int) (w : World) (hs : s.size ≤ 1000000) (h0 : 0 ≤ a) (ha : (s.size : Int) ≤ a) :
    Calls Try.prog 35 #[.string s, .int .i64 a] w (RetV (2, 0, 0) a w) := by
  have hd : decide (a < 0) = false := by simp [h0]
  go_enter Try.func35, Try.ntmps35
  go_wp2
  go_loop [7, 8, 9] (fun v p n => v = .int .u64 0 ∧ p = .int .u64 1 ∧ n = .int .i64 0) (fun _ _ n => 10 - (intOf n).toNat)
  case atStart => exact ⟨rfl, rfl, rfl⟩
  case round =>
    obtain ⟨rfl, rfl, rfl⟩ := hrel
    go_wp2
    go_ret3
    exact ⟨rfl, rfl⟩
theorem vtake_any (s : ByteArray) (a : Int) (w : World) (hs : s.size ≤ 1000000) :
    Calls Try.prog 34 #[.string s, .int .i64 a] w (RetV (tk s.data.toList a) a w) := by
  by_cases h0 : a < 0
  · rw [tk, if_pos h0]; exact vtake_neg s a w h0
  · rw [tk, if_neg h0]
    by_cases h1 : (s.size : Int) ≤ a
    · rw [List.drop_of_length_le (by simp; omega), va_nil]; exact vtake_far s a w hs (by omega) h1
    · have e := vtake_ok s a.toNat w hs (by omega)
      rwa [Int.toNat_of_nonneg (by omega)] at e
theorem rvtake_any (s : ByteArray) (a : Int) (w : World) (hs : s.size ≤ 1000000) :
    Calls Try.prog 35 #[.string s, .int .i64 a] w (RetV (tk s.data.toList a) a w) := by
  by_cases h0 : a < 0
  · rw [tk, if_pos h0]; exact rvtake_neg s a w h0
  · rw [tk, if_neg h0]
    by_cases h1 : (s.size : Int) ≤ a
    · rw [List.drop_of_length_le (by simp; omega), va_nil]; exact rvtake_far s a w hs (by omega) h1
    · have e := rvtake_ok s a.toNat w hs (by omega)
      rwa [Int.toNat_of_nonneg (by omega)] at e
end Go.Proofs.Ytdnngacamdohiaa
