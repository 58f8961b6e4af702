/-
  VarintBack: the walk of the law. Conditions: integers that fit.
-/
import Derived.Test.YtdnngacamdohiaaVarF
import Derived.Test.YtdnngacamdohiaaVFacts
import Derived.Test.YtdnngacamdohiaaLater
namespace Go.Proofs.Ytdnngacamdohiaa
open Go.RowKit

theorem vstr_take (s : ByteArray) (m : Nat) (a : List UInt8) (h : a = s.data.toList.take m) : s.extract 0 m = ⟨a.toArray⟩ := by
  apply ByteArray.ext
  apply Array.ext'
  rw [Lib.extract_data, List.drop_zero, Nat.sub_zero, h]
theorem vstr_take2 (p : List UInt8) (m : Nat) (a : List UInt8) (h : a = p.take m) : (ByteArray.mk p.toArray).extract 0 m = ⟨a.toArray⟩ := vstr_take _ _ _ h

theorem vtake_back (a z : List UInt8) (v : Nat) (p : List UInt8) (hp : p = vB v) (hv : v < 18446744073709551616) (hl : (a ++ p ++ z).length ≤ 1000) (W : World) :
    Calls Try.prog 34 #[.string ⟨(a ++ p ++ z).toArray⟩, .int .i64 (a.length : Int)] W (fun e w' => e = .returned (.tuple #[.int .u64 (v : Int), .int .i64 ((a.length : Int) + (p.length : Int)), .int .i64 0]) ∧ W = w') := by
  have h := vtake_any ⟨(a ++ p ++ z).toArray⟩ (a.length : Int) W (by show (a ++ p ++ z).length ≤ _; omega)
  rw [show tk (ByteArray.mk (a ++ p ++ z).toArray).data.toList (a.length : Int) = (0, v, p.length) by rw [hp]; exact tk_back a z v hv] at h
  exact h
theorem vtake_cut (a : List UInt8) (v k : Nat) (p : List UInt8) (hp : p = vB v) (hv : v < 18446744073709551616) (hk : k ≤ p.length) (hl : (a ++ p).length ≤ 1000) (W : World) :
    ∃ (x : Nat) (y : Int), Calls Try.prog 34 #[.string ⟨(a ++ p.take k).toArray⟩, .int .i64 (a.length : Int)] W (fun e w' => e = .returned (.tuple #[.int .u64 (x : Int), .int .i64 y, .int .i64 ((if k = p.length then 0 else 2 : Nat) : Int)]) ∧ W = w') := by
  have hs : (ByteArray.mk (a ++ p.take k).toArray).size ≤ 1000000 := by
    show (a ++ p.take k).length ≤ _
    rw [List.length_append] at hl ⊢
    rw [List.length_take]; omega
  have h := vtake_any ⟨(a ++ p.take k).toArray⟩ (a.length : Int) W hs
  by_cases hkp : k = p.length
  · rw [show tk (ByteArray.mk (a ++ p.take k).toArray).data.toList (a.length : Int) = (0, v, p.length) by
      rw [hkp, List.take_length, hp]
      simpa using tk_back a [] v hv] at h
    rw [if_pos hkp]
    exact ⟨_, _, h⟩
  · rw [show tk (ByteArray.mk (a ++ p.take k).toArray).data.toList (a.length : Int) = (2, 0, 0) by
      rw [hp]; exact tk_cut a v k (by rw [← hp]; omega)] at h
    rw [if_neg hkp]
    exact ⟨_, _, h⟩

set_option maxRecDepth 100000 in
set_option maxHeartbeats 2000000 in
theorem vback_walk (v : Nat) (ahead behind : ByteArray) (cut : Int) (w : World) (hv : v < 18446744073709551616) (hs1 : ahead.size ≤ 9223372036854775807) (hs2 : behind.size ≤ 9223372036854775807) (hc1 : -9223372036854775808 ≤ cut) (hc2 : cut ≤ 9223372036854775807) :
    Calls Try.prog 10 #[.int .u64 (v : Int), .string ahead, .string behind, .int .i64 cut] w (RetTrue w) := by
  obtain ⟨a, ha⟩ : ∃ a, a = ahead.data.toList.take 20 := ⟨_, rfl⟩
  have hal : a.length = min ahead.size 20 := by rw [ha, List.length_take, Nat.min_comm]; rfl
  have hmina := min_is (P := Try.prog) ahead.size a.length 20 (by omega)
  have hax := vstr_take ahead a.length a (by rw [ha, List.length_take, ← List.take_take, List.take_length])
  have ha20 : a.length ≤ 20 := by omega
  have has : a.length ≤ ahead.size := by omega
  clear hal ha
  obtain ⟨z, hz⟩ : ∃ z, z = behind.data.toList.take 20 := ⟨_, rfl⟩
  have hzl : z.length = min behind.size 20 := by rw [hz, List.length_take, Nat.min_comm]; rfl
  have hminz := min_is (P := Try.prog) behind.size z.length 20 (by omega)
  have hzx := vstr_take behind z.length z (by rw [hz, List.length_take, ← List.take_take, List.take_length])
  have hz20 : z.length ≤ 20 := by omega
  have hzs : z.length ≤ behind.size := by omega
  clear hzl hz
  obtain ⟨p, hp⟩ : ∃ p, p = vB v := ⟨_, rfl⟩
  have hpl : p.length ≤ 10 := by rw [hp]; exact vB_len v
  have hput : ∀ W, Calls Try.prog 27 #[.int .u64 (v : Int)] W fun e w' => e = .returned (.string ⟨p.toArray⟩) ∧ Below W.heap.size W w' := fun W => by
    rw [hp]; exact vput_any v W hv
  have hlen : ∀ W, Calls Try.prog 29 #[.int .u64 (v : Int)] W fun e w' => e = .returned (.int .i64 (p.length : Int)) ∧ W = w' := fun W => by
    rw [hp]; exact vlen_any v W hv
  obtain ⟨k, hk⟩ : ∃ k, k = pickN cut (p.length + 1) := ⟨_, rfl⟩
  have hkp : k < p.length + 1 := by rw [hk]; exact pickN_lt _ _ (by omega)
  have hpick := fun W => pick1_any cut (p.length + 1) W hc1 hc2 (by omega) (by omega)
  rw [← hk] at hpick
  clear hk
  have hadd1 := str_add (P := Try.prog) a p (a ++ p) rfl (by rw [List.length_append]; omega)
  have hadd2 := str_add (P := Try.prog) (a ++ p) z (a ++ p ++ z) rfl (by rw [List.length_append, List.length_append]; omega)
  have hadd3 := str_add (P := Try.prog) a (p.take k) (a ++ p.take k) rfl (by rw [List.length_append, List.length_take]; omega)
  have hpx := vstr_take2 p k (p.take k) rfl
  have hcall1 := fun W => vtake_back a z v p hp hv (by rw [List.length_append, List.length_append]; omega) W
  have hcall2 := fun W => vtake_cut a v k p hp hv (by omega) (by rw [List.length_append]; omega) W
  obtain ⟨s1, hs1⟩ : ∃ s1, s1 = a ++ p := ⟨_, rfl⟩
  obtain ⟨s2, hs2⟩ : ∃ s2, s2 = a ++ p ++ z := ⟨_, rfl⟩
  obtain ⟨s3, hs3⟩ : ∃ s3, s3 = a ++ p.take k := ⟨_, rfl⟩
  rw [← hs2] at hadd2 hcall1
  rw [← hs1] at hadd1 hadd2
  rw [← hs3] at hadd3 hcall2
  clear hs1 hs2 hs3
  obtain ⟨pk, hpk⟩ : ∃ pk, pk = p.take k := ⟨_, rfl⟩
  rw [← hpk] at hadd3 hpx
  clear hpk hp
  have HPICK := Lib.hid hpick
  have HPUT := Lib.hid hput
  have HLEN := Lib.hid hlen
  have HC1 := Lib.hid hcall1
  have HC2 := Lib.hid hcall2
  clear hpick hput hlen hcall1 hcall2
  go_enter Try.func10, Try.ntmps10
  go_wp2_with fail
  refine (awake1_any _).mono ?_
  rintro e w1 ⟨rfl, hb1⟩
  go_wp2_with fail
  refine (HPUT.out _).mono ?_
  rintro e w2 ⟨rfl, hb2⟩
  go_wp2_with fail
  refine (HC1.out _).mono ?_
  rintro e w3 ⟨rfl, rfl⟩
  go_wp2_with fail
  rw [show ((p.length : Int) + 1) = ((p.length + 1 : Nat) : Int) by omega]
  refine (HPICK.out _).mono ?_
  rintro e w4 ⟨rfl, rfl⟩
  go_wp2_with fail
  obtain ⟨X, Y, hcc⟩ := HC2.out w2
  obtain ⟨er, her⟩ : ∃ er : Nat, er = if k = p.length then 0 else 2 := ⟨_, rfl⟩
  rw [← her] at hcc
  have HER := Lib.hid her
  clear her
  refine hcc.mono ?_
  rintro e w4 ⟨rfl, rfl⟩
  clear hcc
  have hend := bl_step hb1 hb2
  by_cases hkk : k = p.length
  · have h0 : er = 0 := by have := HER.out; rw [if_pos hkk] at this; exact this
    subst h0
    have hkb : ((k : Int) == (p.length : Int)) = true := by rw [hkk]; simp
    clear hkk HER
    go_wp2_with fail
    refine (HLEN.out _).mono ?_
    rintro e w8 ⟨rfl, rfl⟩
    go_wp2
    go_ret
    exact ⟨rfl, hend⟩
  · have h0 : er = 2 := by have := HER.out; rw [if_neg hkk] at this; exact this
    subst h0
    have hkb : ((k : Int) == (p.length : Int)) = false := by simp; omega
    clear hkk HER
    go_wp2_with fail
    refine (HLEN.out _).mono ?_
    rintro e w8 ⟨rfl, rfl⟩
    go_wp2
    go_ret
    exact ⟨rfl, hend⟩
end Go.Proofs.Ytdnngacamdohiaa
