/-
  WordsBack: the walk of the law. Conditions: the slice reads as numbers of 64 bits, integers that fit.
-/
import Derived.Test.YtdnngacamdohiaaWordsF
import Derived.Test.YtdnngacamdohiaaLater
namespace Go.Proofs.Ytdnngacamdohiaa
open Go.RowKit

/-- What was put is taken, wherever it stands. -/
theorem take_back (a p z : List UInt8) (f : List Nat) (hp : p = putB 8 f) (hl : (a ++ p ++ z).length ≤ 1000) (hv : ∀ x ∈ f, x < 18446744073709551616) (W : World) :
    Calls Try.prog 23 #[.string ⟨(a ++ p ++ z).toArray⟩, .int .i64 (a.length : Int), .int .i64 (f.length : Int)] W (RetTake f ((a.length : Int) + 8 * (f.length : Int)) 0 W) := by
  have hs : (ByteArray.mk (a ++ p ++ z).toArray).size = a.length + 8 * f.length + z.length := by
    show (a ++ p ++ z).length = _
    rw [List.length_append, List.length_append, hp, putB_len]
  have hl' : a.length + 8 * f.length + z.length ≤ 1000 := by rw [← hs]; exact hl
  have hE : takeE (ByteArray.mk (a ++ p ++ z).toArray).size (a.length : Int) (f.length : Int) 8 = 0 := takeE_ok (by omega) (by rw [hs]; omega)
  have h := take_any ⟨(a ++ p ++ z).toArray⟩ (a.length : Int) (f.length : Int) W (by rw [hs]; omega) (by omega) (by omega)
  rw [tkL, tkN, hE] at h
  have e := takeL_putB 8 a z f
  rw [map_mod 8 f hv, ← hp] at e
  simp only [if_true, Int.toNat_natCast, e] at h
  rw [show (a.length : Int) + 8 * (f.length : Int) = (a.length : Int) + (f.length : Int) * ((8 : Nat) : Int) by omega]
  exact h

/-- Cut off it is too short, but where nothing is cut off. -/
theorem take_cut (a p : List UInt8) (f : List Nat) (k : Nat) (hp : p = putB 8 f) (hk : k ≤ p.length) (hl : (a ++ p).length ≤ 1000) (W : World) :
    ∃ L nx, Calls Try.prog 23 #[.string ⟨(a ++ p.take k).toArray⟩, .int .i64 (a.length : Int), .int .i64 (f.length : Int)] W (RetTake L nx (if k = p.length then 0 else 2 : Nat) W) := by
  have hpl : p.length = 8 * f.length := by rw [hp, putB_len]
  have hs : (ByteArray.mk (a ++ p.take k).toArray).size = a.length + k := by
    show (a ++ p.take k).length = _
    rw [List.length_append, List.length_take]; omega
  have hl' : a.length + p.length ≤ 1000 := by rw [List.length_append] at hl; exact hl
  have h := take_any ⟨(a ++ p.take k).toArray⟩ (a.length : Int) (f.length : Int) W (by rw [hs]; omega) (by omega) (by omega)
  have e : (if k = p.length then 0 else 2 : Nat) = takeE (ByteArray.mk (a ++ p.take k).toArray).size (a.length : Int) (f.length : Int) 8 := by
    by_cases hkp : k = p.length
    · rw [if_pos hkp, takeE_ok (by omega) (by rw [hs]; omega)]
    · rw [if_neg hkp, takeE_short (by omega) (by rw [hs]; omega)]
  rw [e]
  exact ⟨_, _, h⟩

/-- A half that was put is taken. -/
theorem half_back (a z : List UInt8) (v : Nat) (r : List UInt8) (hr : r = leB v 4) (hl : (a ++ r ++ z).length ≤ 1000) (hv : v < 4294967296) (W : World) :
    Calls Try.prog 21 #[.string ⟨(a ++ r ++ z).toArray⟩, .int .i64 (a.length : Int)] W (RetHalf v ((a.length : Int) + 4) 0 W) := by
  have hrl : r.length = 4 := by rw [hr, leB_len]
  have hs : (ByteArray.mk (a ++ r ++ z).toArray).size = a.length + 4 + z.length := by
    show (a ++ r ++ z).length = _
    rw [List.length_append, List.length_append, hrl]
  have hl' : a.length + 4 + z.length ≤ 1000 := by rw [← hs]; exact hl
  have hE : takeE (ByteArray.mk (a ++ r ++ z).toArray).size (a.length : Int) 1 4 = 0 := takeE_ok (by omega) (by rw [hs]; omega)
  have h := takehalf_any ⟨(a ++ r ++ z).toArray⟩ (a.length : Int) W (by rw [hs]; omega) (by omega)
  rw [thV, tkN, hE] at h
  have e : leV (((a ++ r ++ z).drop a.length).take 4) = v := by
    rw [List.append_assoc, List.drop_append_of_le_length (Nat.le_refl _), List.drop_length, List.nil_append, List.take_append_of_le_length (by omega), List.take_of_length_le (by omega), hr, leV_leB, Nat.mod_eq_of_lt hv]
  simp only [if_true, Int.toNat_natCast, e] at h
  rw [show (a.length : Int) + 4 = (a.length : Int) + 1 * ((4 : Nat) : Int) by omega]
  exact h
/-- A half that was cut off is too short. -/
theorem half_cut (a r3 : List UInt8) (h3 : r3.length = 3) (hl : a.length ≤ 900) (W : World) :
    Calls Try.prog 21 #[.string ⟨(a ++ r3).toArray⟩, .int .i64 (a.length : Int)] W (RetHalf 0 0 2 W) := by
  have hs : (ByteArray.mk (a ++ r3).toArray).size = a.length + 3 := by
    show (a ++ r3).length = _
    rw [List.length_append, h3]
  have hE : takeE (ByteArray.mk (a ++ r3).toArray).size (a.length : Int) 1 4 = 2 := takeE_short (by omega) (by rw [hs]; omega)
  have h := takehalf_any ⟨(a ++ r3).toArray⟩ (a.length : Int) W (by rw [hs]; omega) (by omega)
  rw [thV, tkN, hE] at h
  simpa using h

theorem str_take (s : ByteArray) (m : Nat) (a : List UInt8) (h : a = s.data.toList.take m) : s.extract 0 m = ⟨a.toArray⟩ := by
  apply ByteArray.ext
  apply Array.ext'
  rw [Lib.extract_data, List.drop_zero, Nat.sub_zero, h]
theorem str_take2 (p : List UInt8) (m : Nat) (a : List UInt8) (h : a = p.take m) : (ByteArray.mk p.toArray).extract 0 m = ⟨a.toArray⟩ := str_take _ _ _ h

set_option maxHeartbeats 2000000 in
theorem back_walk (A : Option Addr) (l : List Nat) (cap : Nat) (v : Nat) (ahead behind : ByteArray) (cut : Int) (w : World) (hr : Rd w A (us l)) (hc : l.length ≤ cap) (hm : cap ≤ 9223372036854775807) (hv : ∀ x ∈ l, x < 18446744073709551616)
    (hv32 : v < 4294967296) (hs1 : ahead.size ≤ 9223372036854775807) (hs2 : behind.size ≤ 9223372036854775807) (hc1 : -9223372036854775808 ≤ cut) (hc2 : cut ≤ 9223372036854775807) :
    Calls Try.prog 4 #[.slice A l.length cap, .int .u32 (v : Int), .string ahead, .string behind, .int .i64 cut] w (RetTrue w) := by
  obtain ⟨f, hf⟩ : ∃ f, f = l.take 20 := ⟨_, rfl⟩
  have hminf := min_is (P := Try.prog) l.length f.length 20 (by rw [hf, List.length_take]; omega)
  have hf20 : f.length ≤ 20 := by rw [hf, List.length_take]; omega
  have hfl : f.length ≤ l.length := by rw [hf, List.length_take]; omega
  have hvf : ∀ x ∈ f, x < 18446744073709551616 := fun x hx => hv x (List.mem_of_mem_take (by rw [← hf]; exact hx))
  have hrf0 : Rd w A (us f) := by rw [hf]; exact hr.take 20
  clear hf hr hv
  obtain ⟨a, ha⟩ : ∃ a, a = ahead.data.toList.take 20 := ⟨_, rfl⟩
  have hal : a.length = min ahead.size 20 := by rw [ha, List.length_take, Nat.min_comm]; rfl
  have hmina := min_is (P := Try.prog) ahead.size a.length 20 (by omega)
  have hax := str_take ahead a.length a (by rw [ha, List.length_take, ← List.take_take, List.take_length])
  have ha20 : a.length ≤ 20 := by omega
  have has : a.length ≤ ahead.size := by omega
  clear hal ha
  obtain ⟨z, hz⟩ : ∃ z, z = behind.data.toList.take 20 := ⟨_, rfl⟩
  have hzl : z.length = min behind.size 20 := by rw [hz, List.length_take, Nat.min_comm]; rfl
  have hminz := min_is (P := Try.prog) behind.size z.length 20 (by omega)
  have hzx := str_take behind z.length z (by rw [hz, List.length_take, ← List.take_take, List.take_length])
  have hz20 : z.length ≤ 20 := by omega
  have hzs : z.length ≤ behind.size := by omega
  clear hzl hz
  obtain ⟨p, hp⟩ : ∃ p, p = putB 8 f := ⟨_, rfl⟩
  have hpl : p.length = 8 * f.length := by rw [hp, putB_len]
  obtain ⟨k, hk⟩ : ∃ k, k = pickN cut (p.length + 1) := ⟨_, rfl⟩
  have hkp : k < p.length + 1 := by rw [hk]; exact pickN_lt _ _ (by omega)
  have hpick := fun W => pick2_any cut (p.length + 1) W hc1 hc2 (by omega) (by omega)
  rw [← hk] at hpick
  clear hk
  obtain ⟨r, hr4⟩ : ∃ r, r = leB v 4 := ⟨_, rfl⟩
  have hrl : r.length = 4 := by rw [hr4, leB_len]
  have hput : ∀ W, Rd W A (us f) → Calls Try.prog 16 #[.slice A f.length cap] W fun e w' => e = .returned (.string ⟨p.toArray⟩) ∧ Below W.heap.size W w' := fun W hW => by
    rw [hp]; exact put_any A f cap W hW (by omega) hvf
  have hph := fun W => puthalf_any v W hv32
  rw [← hr4] at hph
  have hadd1 := str_add (P := Try.prog) a p (a ++ p) rfl (by rw [List.length_append]; omega)
  have hadd2 := str_add (P := Try.prog) (a ++ p) z (a ++ p ++ z) rfl (by rw [List.length_append, List.length_append]; omega)
  have hadd3 := str_add (P := Try.prog) a (p.take k) (a ++ p.take k) rfl (by rw [List.length_append, List.length_take]; omega)
  have hadd4 := str_add (P := Try.prog) a r (a ++ r) rfl (by rw [List.length_append]; omega)
  have hadd5 := str_add (P := Try.prog) (a ++ r) z (a ++ r ++ z) rfl (by rw [List.length_append, List.length_append]; omega)
  have hadd6 := str_add (P := Try.prog) a (r.take 3) (a ++ r.take 3) rfl (by rw [List.length_append, List.length_take]; omega)
  have hpx := str_take2 p k (p.take k) rfl
  have hrx := str_take2 r 3 (r.take 3) rfl
  have hcall1 := fun W => take_back a p z f hp (by rw [List.length_append, List.length_append]; omega) hvf W
  have hcall2 := fun W => take_cut a p f k hp (by omega) (by rw [List.length_append]; omega) W
  have hcall3 := fun W => half_back a z v r hr4 (by rw [List.length_append, List.length_append]; omega) hv32 W
  have hcall4 := fun W => half_cut a (r.take 3) (by rw [List.length_take]; omega) (by omega) W
  obtain ⟨s1, hs1⟩ : ∃ s1, s1 = a ++ p := ⟨_, rfl⟩
  obtain ⟨s2, hs2⟩ : ∃ s2, s2 = a ++ p ++ z := ⟨_, rfl⟩
  obtain ⟨s3, hs3⟩ : ∃ s3, s3 = a ++ p.take k := ⟨_, rfl⟩
  obtain ⟨s4, hs4⟩ : ∃ s4, s4 = a ++ r := ⟨_, rfl⟩
  obtain ⟨s5, hs5⟩ : ∃ s5, s5 = a ++ r ++ z := ⟨_, rfl⟩
  obtain ⟨s6, hs6⟩ : ∃ s6, s6 = a ++ r.take 3 := ⟨_, rfl⟩
  rw [← hs2] at hadd2 hcall1
  rw [← hs1] at hadd1 hadd2
  rw [← hs3] at hadd3 hcall2
  rw [← hs5] at hadd5 hcall3
  rw [← hs4] at hadd4 hadd5
  rw [← hs6] at hadd6 hcall4
  clear hs1 hs2 hs3 hs4 hs5 hs6
  obtain ⟨pk, hpk⟩ : ∃ pk, pk = p.take k := ⟨_, rfl⟩
  rw [← hpk] at hadd3 hpx
  obtain ⟨r3, hr3⟩ : ∃ r3, r3 = r.take 3 := ⟨_, rfl⟩
  rw [← hr3] at hadd6 hrx
  have hrn : ((r.length : Int) != 4) = false := by rw [hrl]; rfl
  have hr3' : (3 : Int) ≤ (r.length : Int) := by omega
  have hpl2 : p.length ≤ 160 := by omega
  clear hpk hr3 hrl hpl hp hr4
  have HPICK := Lib.hid hpick
  have HPUT := Lib.hid hput
  have HPH := Lib.hid hph
  have HC1 := Lib.hid hcall1
  have HC2 := Lib.hid hcall2
  have HC3 := Lib.hid hcall3
  have HC4 := Lib.hid hcall4
  have HV := Lib.hid hvf
  clear hpick hput hph hcall1 hcall2 hcall3 hcall4 hvf
  go_enter Try.func4, Try.ntmps4
  go_wp2_with fail
  refine (awake2_any _).mono ?_
  rintro e w1 ⟨rfl, hb1⟩
  go_wp2_with fail
  refine (HPUT.out _ (hrf0.below hb1)).mono ?_
  rintro e w2 ⟨rfl, hb2⟩
  go_wp2_with fail
  refine (HC1.out _).mono ?_
  rintro e w3 ⟨A3, c3, rfl, hr3, hc3, hm3, hb3⟩
  go_wp2_with fail
  rw [show ((p.length : Int) + 1) = ((p.length + 1 : Nat) : Int) by omega]
  refine (HPICK.out _).mono ?_
  rintro e w4 ⟨rfl, rfl⟩
  go_wp2_with fail
  obtain ⟨L, nx, hcc⟩ := HC2.out w3
  obtain ⟨er, her⟩ : ∃ er : Nat, er = if k = p.length then 0 else 2 := ⟨_, rfl⟩
  rw [← her] at hcc
  have HER := Lib.hid her
  clear her
  refine hcc.mono ?_
  rintro e w4 ⟨A4, c4, rfl, hr4, hc4, hm4, hb4⟩
  clear hcc
  go_wp2_with fail
  refine (HPH.out _).mono ?_
  rintro e w5 ⟨rfl, hb5⟩
  go_wp2_with fail
  refine (HC3.out _).mono ?_
  rintro e w6 ⟨rfl, hb6⟩
  go_wp2_with fail
  refine (HC4.out _).mono ?_
  rintro e w7 ⟨rfl, hb7⟩
  have h17 := bl_step (bl_step (bl_step (bl_step hb3 hb4) hb5) hb6) hb7
  have hb37 := bl_step (bl_step (bl_step hb4 hb5) hb6) hb7
  have hx := hr3.below hb37
  have hy := (hrf0.below (bl_step hb1 hb2)).below h17
  have hend := bl_step (bl_step hb1 hb2) h17
  clear hb1 hb2 hb3 hb4 hb5 hb6 hb7 h17 hb37 hr3 hr4 hrf0
  by_cases hkk : k = p.length
  · have h0 : er = 0 := by have := HER.out; rw [if_pos hkk] at this; exact this
    subst h0
    have hkb : ((k : Int) == (p.length : Int)) = true := by rw [hkk]; simp
    clear hkk HER
    go_wp2_with fail
    refine (nums_any A3 A f f c3 cap _ hx hy (by omega)).mono ?_
    rintro e w8 ⟨rfl, n8, rfl⟩
    go_wp2
    go_ret
    exact ⟨rfl, bl_drewN hend _⟩
  · have h0 : er = 2 := by have := HER.out; rw [if_neg hkk] at this; exact this
    subst h0
    have hkb : ((k : Int) == (p.length : Int)) = false := by simp; omega
    clear hkk HER
    go_wp2_with fail
    refine (nums_any A3 A f f c3 cap _ hx hy (by omega)).mono ?_
    rintro e w8 ⟨rfl, n8, rfl⟩
    go_wp2
    go_ret
    exact ⟨rfl, bl_drewN hend _⟩
end Go.Proofs.Ytdnngacamdohiaa
