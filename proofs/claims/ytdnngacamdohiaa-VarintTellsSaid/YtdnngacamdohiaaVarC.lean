/-
  The walks of varint.Take and of the reference's Take. Conditions: a text that is not great, as typed.
-/
import Derived.Test.YtdnngacamdohiaaVarB
import Derived.Lib.Strings
import Derived.WalkMore
namespace Go.Proofs.Ytdnngacamdohiaa
open Go.RowKit

/-- A number, the place behind it, an error; the world is as it was. -/
def RetV (R : Nat × Nat × Nat) (a : Int) (w : World) (en : Ending) (w' : World) : Prop :=
  en = .returned (.tuple #[.int .u64 (R.2.1 : Int), .int .i64 (if R.1 = 0 then a + (R.2.2 : Int) else 0), .int .i64 (R.1 : Int)]) ∧ w = w'

def TvRel (l : List UInt8) (a : Nat) (R : Nat × Nat × Nat) (v x n : Value) : Prop :=
  ∃ k acc : Nat, k ≤ 9 ∧ n = .int .i64 (k : Int) ∧ x = .int .i64 ((a : Int) + (k : Int)) ∧ v = .int .u64 (acc : Int) ∧ acc < 128 ^ k ∧ va k acc (l.drop (a + k)) = R

theorem or_digit (acc c n : Nat) (ha : acc < 128 ^ n) (hn : n ≤ 9) (hc : c < 128) (h9 : n = 9 → c < 2) :
    bits .or .u64 (acc : Int) (IntKind.u64.wrap ((c : Int) * 2 ^ (7 * n))) = ((acc + c * 128 ^ n : Nat) : Int) := by
  have e : ((c : Int) * 2 ^ (7 * n)) = ((c * 128 ^ n : Nat) : Int) := by rw [Int.pow_mul]; simp
  have h1 : c * 128 ^ n < 18446744073709551616 := by
    by_cases h : n = 9
    · have := h9 h; subst h; have : (128 : Nat) ^ 9 = 9223372036854775808 := by decide
      omega
    · have h2 : 128 ^ n ≤ 128 ^ 8 := Nat.pow_le_pow_right (by decide) (by omega)
      have h3 : c * 128 ^ n ≤ 127 * 128 ^ 8 := Nat.mul_le_mul (by omega) h2
      have : (128 : Nat) ^ 8 = 72057594037927936 := by decide
      omega
  have h2 : acc < 18446744073709551616 := by
    have h2 : 128 ^ n ≤ 128 ^ 9 := Nat.pow_le_pow_right (by decide) hn
    have : (128 : Nat) ^ 9 = 9223372036854775808 := by decide
    omega
  have e2 : (128 : Nat) ^ n = 2 ^ (7 * n) := by rw [Nat.pow_mul]
  rw [e, show IntKind.u64.wrap ((c * 128 ^ n : Nat) : Int) = ((c * 128 ^ n : Nat) : Int) by rw [IntKind.wrap_u64]; omega, u64_or_nat _ _ h2 h1, Nat.or_comm, nat_join (7 * n) _ _ (by rw [e2]; exact Nat.mul_mod_left _ _) (by rw [← e2]; exact ha), Nat.add_comm]

theorem drop_at (l : List UInt8) (i : Nat) (h : i < l.length) : l.drop i = (l[i]?.getD 0) :: l.drop (i + 1) := by
  rw [List.drop_eq_getElem_cons h, List.getElem?_eq_getElem h]; rfl

theorem tv_form {l : List UInt8} {a k acc : Nat} {R : Nat × Nat × Nat} {c : UInt8} (hva : va k acc (l.drop (a + k)) = R) (h : a + k < l.length) (hc : c = l[a + k]?.getD 0) (hf : k = 9 ∧ 2 ≤ c.toNat ∨ 0 < k ∧ c.toNat = 0) : R = (3, 0, 0) := by
  rw [drop_at l _ h, ← hc, va_form hf] at hva
  exact hva.symm
theorem tv_last {l : List UInt8} {a k acc : Nat} {R : Nat × Nat × Nat} {c : UInt8} (hva : va k acc (l.drop (a + k)) = R) (h : a + k < l.length) (hc : c = l[a + k]?.getD 0) (hf : ¬ (k = 9 ∧ 2 ≤ c.toNat ∨ 0 < k ∧ c.toNat = 0)) (h128 : c.toNat < 128) : R = (0, acc + c.toNat * 128 ^ k, k + 1) := by
  rw [drop_at l _ h, ← hc, va_last hf h128] at hva
  exact hva.symm
theorem tv_next {l : List UInt8} {a k acc : Nat} {R : Nat × Nat × Nat} {c : UInt8} (hva : va k acc (l.drop (a + k)) = R) (h : a + k < l.length) (hc : c = l[a + k]?.getD 0) (hf : ¬ (k = 9 ∧ 2 ≤ c.toNat ∨ 0 < k ∧ c.toNat = 0)) (h128 : 128 ≤ c.toNat) : va (k + 1) (acc + (c.toNat - 128) * 128 ^ k) (l.drop (a + (k + 1))) = R := by
  rw [drop_at l _ h, ← hc, va_next hf h128] at hva
  exact hva
theorem tv_short {l : List UInt8} {a k acc : Nat} {R : Nat × Nat × Nat} (hva : va k acc (l.drop (a + k)) = R) (h : ¬ a + k < l.length) : R = (2, 0, 0) := by
  rw [List.drop_of_length_le (by omega), va_nil] at hva
  exact hva.symm
theorem tv_end {R : Nat × Nat × Nat} {a acc c k : Nat} {w : World} {X : Int} (hR : R = (0, acc + c * 128 ^ k, k + 1)) (hX : X = ((acc + c * 128 ^ k : Nat) : Int)) :
    RetV R (a : Int) w (.returned (.tuple #[.int .u64 X, .int .i64 ((a : Int) + (k : Int) + 1), .int .i64 0])) w := by
  subst hR
  refine ⟨?_, rfl⟩
  rw [hX, if_pos rfl, show ((a : Int) + ((k + 1 : Nat) : Int)) = (a : Int) + (k : Int) + 1 by omega]
  rfl

theorem tv_rel {l : List UInt8} {a : Nat} {R : Nat × Nat × Nat} {k acc c : Nat} {X Y Z : Int} (hk : k ≤ 8) (ha : acc < 128 ^ k) (hc : c < 256) (hva : va (k + 1) (acc + (c - 128) * 128 ^ k) (l.drop (a + (k + 1))) = R)
    (hX : X = ((acc + (c - 128) * 128 ^ k : Nat) : Int)) (hY : Y = (a : Int) + (k : Int) + 1) (hZ : Z = (k : Int) + 1) : TvRel l a R (.int .u64 X) (.int .i64 Y) (.int .i64 Z) := by
  refine ⟨k + 1, acc + (c - 128) * 128 ^ k, by omega, by rw [hZ]; go_num, by rw [hY]; congr 1, by rw [hX], ?_, hva⟩
  have h1 : (c - 128) * 128 ^ k ≤ 127 * 128 ^ k := Nat.mul_le_mul_right _ (by omega)
  rw [Nat.pow_succ]
  omega

set_option maxRecDepth 100000 in
set_option maxHeartbeats 2000000 in
theorem vtake_ok (s : ByteArray) (a : Nat) (w : World) (hs : s.size ≤ 1000000) (ha : a ≤ 1000000000000) :
    Calls Try.prog 34 #[.string s, .int .i64 (a : Int)] w (RetV (va 0 0 (s.data.toList.drop a)) (a : Int) w) := by
  obtain ⟨R, hR⟩ : ∃ R, R = va 0 0 (s.data.toList.drop a) := ⟨_, rfl⟩
  rw [← hR]
  have HR := Lib.hid hR
  clear hR
  have hd : decide ((a : Int) < 0) = false := by simp
  go_enter Try.func34, Try.ntmps34
  go_wp2
  go_step3
  go_wp2
  go_step3
  go_wp2
  go_loop [4, 5, 7] (fun v x n => TvRel s.data.toList a R v x n) (fun _ _ n => 10 - (intOf n).toNat)
  case atStart => exact ⟨0, 0, by omega, rfl, by simp, rfl, by decide, HR.out.symm⟩
  case round =>
    obtain ⟨k, acc, hk, rfl, rfl, rfl, hacc, hva⟩ := hrel
    have HV := Lib.hid hva
    have HA := Lib.hid hacc
    clear hva hacc
    by_cases hlt : a + k < s.size
    · have hby := bget s (a + k) hlt
      obtain ⟨c, hc⟩ : ∃ c, c = (s.data.toList[a + k]?.getD 0) := ⟨_, rfl⟩
      rw [← hc] at hby
      have hc256 := c.toNat_lt
      have HC := Lib.hid hc
      clear hc
      by_cases hform : k = 9 ∧ 2 ≤ c.toNat ∨ 0 < k ∧ c.toNat = 0
      · have hRf : R = (3, 0, 0) := tv_form HV.out hlt HC.out hform
        subst hRf
        clear HV HA HC HR
        rcases hform with ⟨rfl, h2⟩ | ⟨h0, h2⟩
        · go_wp2
          try rw [Exit.noGoto_ret]
          go_ret3
          exact ⟨rfl, rfl⟩
        · have hcb : ((c.toNat : Int) == 0) = true := by rw [h2]; rfl
          have h2' : c.toNat ≤ 0 := by omega
          clear h2
          by_cases hk9 : k = 9
          · subst hk9
            go_wp2
            try rw [Exit.noGoto_ret]
            go_ret3
            exact ⟨rfl, rfl⟩
          · have hk8 : k ≤ 8 := by omega
            clear hk9
            go_wp2
            try rw [Exit.noGoto_ret]
            go_ret3
            exact ⟨rfl, rfl⟩
      · by_cases h128 : c.toNat < 128
        · have hRl : R = (0, acc + c.toNat * 128 ^ k, k + 1) := tv_last HV.out hlt HC.out hform h128
          have hor := or_digit acc c.toNat k HA.out hk h128 (fun h => by omega)
          have HR2 := Lib.hid hRl
          clear hRl
          by_cases hk9 : k = 9
          · subst hk9
            have hc1 : c.toNat = 1 := by omega
            have hcb : ((c.toNat : Int) == 0) = false := by rw [hc1]; rfl
            have h2' : c.toNat ≤ 1 := by omega
            have h2'' : 1 ≤ c.toNat := by omega
            have h9 : IntKind.u64.wrap ((c.toNat : Int) * 2 ^ (7 * 9)) = (c.toNat : Int) * 9223372036854775808 := by
              rw [show (2 : Int) ^ (7 * 9) = 9223372036854775808 by decide, IntKind.wrap_u64]; omega
            rw [h9] at hor
            have HOR := Lib.hid hor
            clear hform hc1 hor h9
            go_wp2
            try rw [Exit.noGoto_ret]
            go_ret3
            exact tv_end HR2.out HOR.out
          · by_cases hk0 : k = 0
            · subst hk0
              have hor0 : bits .or .u64 (acc : Int) (c.toNat : Int) = ((acc + c.toNat * 128 ^ 0 : Nat) : Int) := by
                rw [← hor, Nat.mul_zero, Int.pow_zero, Int.mul_one, show IntKind.u64.wrap (c.toNat : Int) = (c.toNat : Int) by rw [IntKind.wrap_u64]; omega]
              have HOR := Lib.hid hor0
              have hlt2 : a < s.size := hlt
              have hby2 : s[a]'hlt2 = c := hby
              clear hform hk9 hor hor0 hby hlt
              go_wp2
              try rw [Exit.noGoto_ret]
              go_ret3
              have e := tv_end (a := a) (w := w) HR2.out HOR.out
              simpa using e
            · have hk8 : k ≤ 8 := by omega
              have hk1 : 1 ≤ k := by omega
              have hc1 : 1 ≤ c.toNat := by omega
              have hcb : ((c.toNat : Int) == 0) = false := by simp; omega
              have HOR := Lib.hid hor
              clear hform hk9 hor hk0
              go_wp2
              try rw [Exit.noGoto_ret]
              go_ret3
              exact tv_end HR2.out HOR.out
        · have h128' : 128 ≤ c.toNat := by omega
          have hk8 : k ≤ 8 := by omega
          have hnext := tv_next HV.out hlt HC.out hform h128'
          have hor := or_digit acc (c.toNat - 128) k HA.out hk (by omega) (fun h => by omega)
          rw [show (((c.toNat - 128 : Nat)) : Int) = (c.toNat : Int) - 128 by omega] at hor
          have hcb : ((c.toNat : Int) == 0) = false := by simp; omega
          have HN := Lib.hid hnext
          clear hform h128 hnext
          by_cases hk0 : k = 0
          · subst hk0
            have hor0 : bits .or .u64 (acc : Int) ((c.toNat : Int) - 128) = ((acc + (c.toNat - 128) * 128 ^ 0 : Nat) : Int) := by
              rw [← hor, Nat.mul_zero, Int.pow_zero, Int.mul_one, show IntKind.u64.wrap ((c.toNat : Int) - 128) = (c.toNat : Int) - 128 by rw [IntKind.wrap_u64]; omega]
            have HOR := Lib.hid hor0
            have hlt2 : a < s.size := hlt
            have hby2 : s[a]'hlt2 = c := hby
            clear hor hor0 hby hlt
            go_wp2
            exact ⟨tv_rel (by omega) HA.out (by omega) HN.out HOR.out rfl rfl, by simp [intOf]⟩
          · have hk1 : 1 ≤ k := by omega
            have HOR := Lib.hid hor
            clear hor hk0
            go_wp2
            exact ⟨tv_rel (by omega) HA.out (by omega) HN.out HOR.out (by omega) (by omega), by simp [intOf]; omega⟩
    · have hRs : R = (2, 0, 0) := tv_short HV.out (by simpa using hlt)
      subst hRs
      clear HV HA HR
      go_wp2
      go_ret3
      exact ⟨rfl, rfl⟩
end Go.Proofs.Ytdnngacamdohiaa
