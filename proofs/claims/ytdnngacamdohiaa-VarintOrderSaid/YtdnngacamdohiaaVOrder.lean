/-
  VarintOrder: the walk of the law. Conditions: integers that fit.
-/
import Derived.Test.YtdnngacamdohiaaVarF
import Derived.Test.YtdnngacamdohiaaVFacts
import Derived.Test.YtdnngacamdohiaaLater
namespace Go.Proofs.Ytdnngacamdohiaa
open Go.RowKit

theorem vostr_take (p : List UInt8) (m : Nat) (a : List UInt8) (h : a = p.take m) : (ByteArray.mk p.toArray).extract 0 m = ⟨a.toArray⟩ := by
  apply ByteArray.ext
  apply Array.ext'
  rw [Lib.extract_data, List.drop_zero, Nat.sub_zero, h]
set_option maxRecDepth 100000 in
set_option maxHeartbeats 2000000 in
theorem vorder_walk (v x : Nat) (bits : Int) (w : World) (hv : v < 18446744073709551616) (hx : x < 18446744073709551616) (hc1 : -9223372036854775808 ≤ bits) (hc2 : bits ≤ 9223372036854775807) :
    Calls Try.prog 12 #[.int .u64 (v : Int), .int .u64 (x : Int), .int .i64 bits] w (RetTrue w) := by
  obtain ⟨p, hp⟩ : ∃ p, p = vB v := ⟨_, rfl⟩
  obtain ⟨q, hq⟩ : ∃ q, q = vB x := ⟨_, rfl⟩
  have hpl : p.length ≤ 10 := by rw [hp]; exact vB_len v
  have hql : q.length ≤ 10 := by rw [hq]; exact vB_len x
  have hp1 : 1 ≤ p.length := by rw [hp]; exact vB_pos v
  have hput : ∀ W, Calls Try.prog 27 #[.int .u64 (v : Int)] W fun e w' => e = .returned (.string ⟨p.toArray⟩) ∧ Below W.heap.size W w' := fun W => by
    rw [hp]; exact vput_any v W hv
  have hput2 : ∀ W, Calls Try.prog 27 #[.int .u64 (x : Int)] W fun e w' => e = .returned (.string ⟨q.toArray⟩) ∧ Below W.heap.size W w' := fun W => by
    rw [hq]; exact vput_any x W hx
  obtain ⟨k, hk⟩ : ∃ k, k = pickN bits 64 := ⟨_, rfl⟩
  have hkp : k < 64 := by rw [hk]; exact pickN_lt _ _ (by omega)
  have hpick := fun W => pick1_any bits 64 W hc1 hc2 (by omega) (by omega)
  rw [← hk] at hpick
  clear hk
  have hpow : (2 : Nat) ^ k ≤ 2 ^ 63 := Nat.pow_le_pow_right (by decide) (by omega)
  have hpow1 : 1 ≤ (2 : Nat) ^ k := Nat.one_le_two_pow
  have h63 : (2 : Nat) ^ 63 = 9223372036854775808 := by decide
  obtain ⟨P, hP⟩ : ∃ P, P = 2 ^ k := ⟨_, rfl⟩
  have hPi : (2 : Int) ^ k = (P : Int) := by rw [hP]; simp
  have hlp := len_pow k hkp
  rw [← hP] at hpow hpow1 hlp
  have hlen1 : ∀ W, Calls Try.prog 29 #[.int .u64 (P : Int)] W fun e w' => e = .returned (.int .i64 (((k / 7 + 1 : Nat)) : Int)) ∧ W = w' := fun W => by
    rw [← hlp.1]; exact vlen_any P W (by omega)
  have hlen2 : 0 < k → ∀ W, Calls Try.prog 29 #[.int .u64 ((P : Int) - 1)] W fun e w' => e = .returned (.int .i64 (((k : Int) + 6) / 7)) ∧ W = w' := fun h0 W => by
    have h := vlen_any (P - 1) W (by omega)
    rw [hlp.2 h0, show (((k + 6) / 7 : Nat) : Int) = ((k : Int) + 6) / 7 by omega, show ((P - 1 : Nat) : Int) = (P : Int) - 1 by omega] at h
    exact h
  have hmono : v ≤ x → p.length ≤ q.length := fun h => by rw [hp, hq]; exact vB_mono v x h
  have hpre : v ≠ x → p.length ≤ q.length → q.take p.length ≠ p := fun hne hle he => hne (vB_prefix v x (q.drop p.length) hv hx (by rw [← hp, ← hq]; conv => lhs; rw [← List.take_append_drop p.length q, he]))
  have hinj : v = x ↔ p = q := ⟨fun h => by rw [hp, hq, h], fun h => vB_prefix v x [] hv hx (by rw [List.append_nil, ← hp, ← hq, h])⟩
  clear hp hq hP hlp h63
  have HPICK := Lib.hid hpick
  have HPUT := Lib.hid hput
  have HPUT2 := Lib.hid hput2
  have HL1 := Lib.hid hlen1
  have HL2 := Lib.hid hlen2
  have HM := Lib.hid hmono
  have HPRE := Lib.hid hpre
  have HINJ := Lib.hid hinj
  clear hpick hput hput2 hlen1 hlen2 hmono hpre hinj
  go_enter Try.func12, Try.ntmps12
  go_wp2_with fail
  refine (awake1_any _).mono ?_
  rintro e w1 ⟨rfl, hb1⟩
  go_wp2_with fail
  refine (HPUT.out _).mono ?_
  rintro e w2 ⟨rfl, hb2⟩
  go_wp2_with fail
  refine (HPUT2.out _).mono ?_
  rintro e w3 ⟨rfl, hb3⟩
  go_wp2_with fail
  refine (HPICK.out _).mono ?_
  rintro e w4 ⟨rfl, rfl⟩
  have hend := bl_step (bl_step hb1 hb2) hb3
  clear hb1 hb2 hb3
  go_wp2_with fail
  refine (HL1.out _).mono ?_
  rintro e w4 ⟨rfl, rfl⟩
  by_cases hne : v = x
  · have hpq := HINJ.out.1 hne
    subst hne
    subst hpq
    clear HM HPRE HINJ HPUT HPUT2 HPICK HL1
    go_wp2_with fail
    all_goals first
      | (go_ret; exact ⟨rfl, hend⟩)
      | (refine (HL2.out (by omega) _).mono ?_
         rintro e w5 ⟨rfl, rfl⟩
         go_wp2
         go_ret
         exact ⟨rfl, hend⟩)
  · have hpq : p ≠ q := fun h => hne (HINJ.out.2 h)
    have hvx1 : ((v : Int) == (x : Int)) = false := by simp; omega
    have hvx2 : ((v : Int) != (x : Int)) = true := by simp; omega
    have hpq1 : (p == q) = false := by simp [hpq]
    by_cases hle : p.length ≤ q.length
    · have hqx := vostr_take q p.length (q.take p.length) rfl
      have htk := HPRE.out hne hle
      obtain ⟨qt, hqt⟩ : ∃ qt, qt = q.take p.length := ⟨_, rfl⟩
      rw [← hqt] at hqx htk
      have hqt1 : (qt == p) = false := by simp [htk]
      clear hne hqt htk HPRE HINJ HM HPUT HPUT2 HPICK HL1
      go_wp2_with fail
      all_goals first
        | (go_ret; exact ⟨rfl, hend⟩)
        | (refine (HL2.out (by omega) _).mono ?_
           rintro e w5 ⟨rfl, rfl⟩
           go_wp2
           go_ret
           exact ⟨rfl, hend⟩)
    · have hlt : x < v := by
        have h := HM.out
        omega
      clear hne HPRE HINJ HM HPUT HPUT2 HPICK HL1
      go_wp2_with fail
      all_goals first
        | (go_ret; exact ⟨rfl, hend⟩)
        | (refine (HL2.out (by omega) _).mono ?_
           rintro e w5 ⟨rfl, rfl⟩
           go_wp2
           go_ret
           exact ⟨rfl, hend⟩)
end Go.Proofs.Ytdnngacamdohiaa
