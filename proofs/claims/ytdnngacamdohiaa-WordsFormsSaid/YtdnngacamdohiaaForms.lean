/-
  WordsForms: the walk of the law, in four cases. Conditions: integers that fit.
-/
import Derived.Test.YtdnngacamdohiaaWordsF
import Derived.Test.YtdnngacamdohiaaLater
namespace Go.Proofs.Ytdnngacamdohiaa
open Go.RowKit

theorem ext_list (T : ByteArray) (i n : Nat) : (T.extract i (i + n)).toList = (T.data.toList.drop i).take n := by
  rw [Lib.toList_data, Lib.extract_data, Nat.add_sub_cancel_left]

theorem forms_take_ok (T : ByteArray) (i k : Nat) (hT : T.size ≤ 100) (h : i + 8 * k ≤ T.size) (W : World) :
    Calls Try.prog 23 #[.string T, .int .i64 (i : Int), .int .i64 (k : Int)] W (RetTake (takeL T.data.toList i 8 k) ((i : Int) + 8 * (k : Int)) 0 W) := by
  have hE : takeE T.size (i : Int) (k : Int) 8 = 0 := takeE_ok (by omega) (by omega)
  have h := take_any T (i : Int) (k : Int) W (by omega) (by omega) (by omega)
  rw [tkL, tkN, hE] at h
  rw [show (i : Int) + 8 * (k : Int) = (i : Int) + (k : Int) * ((8 : Nat) : Int) by omega]
  simpa using h
theorem forms_take_short (T : ByteArray) (i k : Nat) (hT : T.size ≤ 100) (hi : i ≤ T.size) (hk : k < 14) (h : T.size < i + 8 * k) (W : World) :
    Calls Try.prog 23 #[.string T, .int .i64 (i : Int), .int .i64 (k : Int)] W (RetTake [] 0 2 W) := by
  have hE : takeE T.size (i : Int) (k : Int) 8 = 2 := takeE_short (by omega) (by omega)
  have h := take_any T (i : Int) (k : Int) W (by omega) (by omega) (by omega)
  rw [tkL, tkN, hE] at h
  simpa using h
theorem forms_half_ok (T : ByteArray) (i : Nat) (hT : T.size ≤ 100) (h : i + 4 ≤ T.size) (W : World) :
    Calls Try.prog 21 #[.string T, .int .i64 (i : Int)] W (RetHalf (leV ((T.data.toList.drop i).take 4)) ((i : Int) + 4) 0 W) := by
  have hE : takeE T.size (i : Int) 1 4 = 0 := takeE_ok (by omega) (by omega)
  have h := takehalf_any T (i : Int) W (by omega) (by omega)
  rw [thV, tkN, hE] at h
  simpa using h
theorem forms_half_short (T : ByteArray) (i : Nat) (hT : T.size ≤ 100) (hi : i ≤ T.size) (h : T.size < i + 4) (W : World) :
    Calls Try.prog 21 #[.string T, .int .i64 (i : Int)] W (RetHalf 0 0 2 W) := by
  have hE : takeE T.size (i : Int) 1 4 = 2 := takeE_short (by omega) (by omega)
  have h := takehalf_any T (i : Int) W (by omega) (by omega)
  rw [thV, tkN, hE] at h
  simpa using h

theorem slice_str (T : ByteArray) (i j : Nat) (x : Int) (hx : x = (j : Int)) (h1 : i ≤ j) (h2 : j ≤ T.size) : ∀ W, (Instr.slice 9 (.string T) (some (.int .i64 (i : Int))) (some (.int .i64 x)) none).run Try.prog W = .ok (.string (T.extract i j)) W := fun W => by
  subst hx
  rw [run_slice_string_if W 9 T .i64 .i64 (i : Int) (j : Int) Try.underlying9, if_pos (by omega), if_pos (by omega)]
  simp

theorem thV_bound (s : List UInt8) (i : Nat) : leV ((s.drop i).take 4) < 4294967296 := by
  have := leV_lt ((s.drop i).take 4)
  have h2 : 256 ^ ((s.drop i).take 4).length ≤ 256 ^ 4 := Nat.pow_le_pow_right (by decide) (by rw [List.length_take]; omega)
  omega

set_option maxHeartbeats 2000000 in
theorem forms_11 (s : ByteArray) (at_ n : Int) (w : World) (m : Nat) (hm : m = min s.size 100) (hs : s.size ≤ 9223372036854775807) (ha1 : -9223372036854775808 ≤ at_) (ha2 : at_ ≤ 9223372036854775807) (hn1 : -9223372036854775808 ≤ n) (hn2 : n ≤ 9223372036854775807)
    (h1 : pickN at_ (m + 1) + 8 * pickN n 14 ≤ m) (h2 : pickN at_ (m + 1) + 4 ≤ m) :
    Calls Try.prog 5 #[.string s, .int .i64 at_, .int .i64 n] w (RetTrue w) := by
  have hmin := min_is (P := Try.prog) s.size m 100 (by omega)
  have hm100 : m ≤ 100 := by omega
  have hms : m ≤ s.size := by omega
  obtain ⟨T, hT⟩ : ∃ T, T = s.extract 0 m := ⟨_, rfl⟩
  have hTs : T.size = m := by rw [hT, ByteArray.size_extract]; omega
  have hi := pickN_lt at_ (m + 1) (by omega)
  have hk := pickN_lt n 14 (by omega)
  have hpi := fun W => pick2_any at_ (m + 1) W ha1 ha2 (by omega) (by omega)
  have hpk := fun W => pick2_any n 14 W hn1 hn2 (by omega) (by omega)
  rw [← hTs] at hi hpi h1 h2
  obtain ⟨i, hi0⟩ : ∃ i, i = pickN at_ (T.size + 1) := ⟨_, rfl⟩
  obtain ⟨k, hk0⟩ : ∃ k, k = pickN n 14 := ⟨_, rfl⟩
  rw [← hi0] at hi h1 h2 hpi
  rw [← hk0] at hk h1 hpk
  clear hi0 hk0
  have hct := fun W => forms_take_ok T i k (by omega) (by omega) W
  have hll := takeL_len T.data.toList i 8 k
  have hpl := putB_takeL T.data.toList 8 k i (by rw [Array.length_toList]; show _ ≤ T.size; omega)
  have hlt : ∀ x ∈ takeL T.data.toList i 8 k, x < 18446744073709551616 := fun x hx => by
    obtain ⟨j, _, rfl⟩ := List.mem_map.1 hx
    have := leV_lt ((T.data.toList.drop (i + j * 8)).take 8)
    have h2 : 256 ^ ((T.data.toList.drop (i + j * 8)).take 8).length ≤ 256 ^ 8 := Nat.pow_le_pow_right (by decide) (by rw [List.length_take]; omega)
    omega
  have hsl := ext_list T i (8 * k)
  rw [← hpl] at hsl
  have hrs := slice_str T i (i + 8 * k) ((i : Int) + 8 * (k : Int)) (by omega) (by omega) (by omega)
  obtain ⟨X, hX⟩ : ∃ X, X = T.extract i (i + 8 * k) := ⟨_, rfl⟩
  rw [← hX] at hsl hrs
  clear hX
  obtain ⟨L, hL⟩ : ∃ L, L = takeL T.data.toList i 8 k := ⟨_, rfl⟩
  rw [← hL] at hct hll hlt hsl
  clear hL hpl
  obtain ⟨q, hq⟩ : ∃ q, q = putB 8 L := ⟨_, rfl⟩
  rw [← hq] at hsl
  have hput : ∀ W A c, Rd W A (us L) → Calls Try.prog 16 #[.slice A k c] W fun e w' => e = .returned (.string ⟨q.toArray⟩) ∧ Below W.heap.size W w' := fun W A c hr => by
    rw [hq]
    exact put_len A L k c W hll hr (by omega) hlt
  clear hq hlt
  have HPUT := Lib.hid hput
  have HLL := Lib.hid hll
  clear hput hll
  have hch := fun W => forms_half_ok T i (by omega) (by omega) W
  have hlv := thV_bound T.data.toList i
  have hsh := ext_list T i 4
  rw [← leB_half T.data.toList i (by rw [Array.length_toList]; show _ ≤ T.size; omega)] at hsh
  have hrh := slice_str T i (i + 4) ((i : Int) + 4) (by omega) (by omega) (by omega)
  obtain ⟨Y, hY⟩ : ∃ Y, Y = T.extract i (i + 4) := ⟨_, rfl⟩
  rw [← hY] at hsh hrh
  clear hY
  obtain ⟨v, hv⟩ : ∃ v, v = leV ((T.data.toList.drop i).take 4) := ⟨_, rfl⟩
  rw [← hv] at hch hlv hsh
  clear hv
  obtain ⟨r, hr⟩ : ∃ r, r = leB v 4 := ⟨_, rfl⟩
  have hph := fun W => puthalf_any v W hlv
  rw [← hr] at hsh hph
  clear hr
  have HPH := Lib.hid hph
  clear hph
  have HCT := Lib.hid hct
  have HCH := Lib.hid hch
  have HPI := Lib.hid hpi
  have HPK := Lib.hid hpk
  have hTx : s.extract 0 m = T := hT.symm
  have hTb : T.size ≤ 100 := by omega
  clear hct hch hpi hpk hTs hT hm 
  have hd1 : decide ((i : Int) + 8 * (k : Int) ≤ (T.size : Int)) = true := by simp; omega
  have hd2 : decide ((i : Int) + 4 ≤ (T.size : Int)) = true := by simp; omega
  go_enter Try.func5, Try.ntmps5
  go_wp2_with fail
  refine (awake2_any _).mono ?_
  rintro e w1 ⟨rfl, hb1⟩
  go_wp2_with fail
  rw [show ((T.size : Int) + 1) = ((T.size + 1 : Nat) : Int) by omega]
  refine (HPI.out _).mono ?_
  rintro e w2 ⟨rfl, rfl⟩
  go_wp2_with fail
  refine (HPK.out _).mono ?_
  rintro e w2 ⟨rfl, rfl⟩
  go_wp2_with fail
  refine (HCT.out _).mono ?_
  rintro e w2 ⟨A1, c1, rfl, hr1, hc1, hm1, hb2⟩
  rw [HLL.out]
  go_wp2_with fail
  refine (HCH.out _).mono ?_
  rintro e w3 ⟨rfl, hb3⟩
  go_wp2_with fail
  have e1 : IntKind.i64.wrap (8 * (k : Int)) = 8 * (k : Int) := IntWalk.i64_in _ (by omega)
  have e2 : IntKind.i64.wrap ((i : Int) + 8 * (k : Int)) = (i : Int) + 8 * (k : Int) := IntWalk.i64_in _ (by omega)
  have e3 : IntKind.i64.wrap ((i : Int) + 4) = (i : Int) + 4 := IntWalk.i64_in _ (by omega)
  refine wp_region_later (by kernel_rfl) (by kernel_rfl) ?_
  repeat (go_big_quiet_step (((exact later_of (HPUT.out _ _ _ ((hr1.below hb3).below (Later.below _)))))))
  refine wpQuiet_nil ?_
  intro _ hw'
  obtain ⟨x, hw''⟩ := hw'
  subst hw''
  go_wp2_with fail
  refine wp_region_later (by kernel_rfl) (by kernel_rfl) ?_
  repeat (go_big_quiet_step (((exact later_of (HPH.out _)))))
  refine wpQuiet_nil ?_
  intro _ hw'
  obtain ⟨y, hw''⟩ := hw'
  subst hw''
  go_wp2
  go_ret
  exact ⟨rfl, bl_step (bl_step (bl_step (bl_step hb1 hb2) hb3) x.below) y.below⟩
set_option maxHeartbeats 2000000 in
theorem forms_10 (s : ByteArray) (at_ n : Int) (w : World) (m : Nat) (hm : m = min s.size 100) (hs : s.size ≤ 9223372036854775807) (ha1 : -9223372036854775808 ≤ at_) (ha2 : at_ ≤ 9223372036854775807) (hn1 : -9223372036854775808 ≤ n) (hn2 : n ≤ 9223372036854775807)
    (h1 : pickN at_ (m + 1) + 8 * pickN n 14 ≤ m) (h2 : m < pickN at_ (m + 1) + 4) :
    Calls Try.prog 5 #[.string s, .int .i64 at_, .int .i64 n] w (RetTrue w) := by
  have hmin := min_is (P := Try.prog) s.size m 100 (by omega)
  have hm100 : m ≤ 100 := by omega
  have hms : m ≤ s.size := by omega
  obtain ⟨T, hT⟩ : ∃ T, T = s.extract 0 m := ⟨_, rfl⟩
  have hTs : T.size = m := by rw [hT, ByteArray.size_extract]; omega
  have hi := pickN_lt at_ (m + 1) (by omega)
  have hk := pickN_lt n 14 (by omega)
  have hpi := fun W => pick2_any at_ (m + 1) W ha1 ha2 (by omega) (by omega)
  have hpk := fun W => pick2_any n 14 W hn1 hn2 (by omega) (by omega)
  rw [← hTs] at hi hpi h1 h2
  obtain ⟨i, hi0⟩ : ∃ i, i = pickN at_ (T.size + 1) := ⟨_, rfl⟩
  obtain ⟨k, hk0⟩ : ∃ k, k = pickN n 14 := ⟨_, rfl⟩
  rw [← hi0] at hi h1 h2 hpi
  rw [← hk0] at hk h1 hpk
  clear hi0 hk0
  have hct := fun W => forms_take_ok T i k (by omega) (by omega) W
  have hll := takeL_len T.data.toList i 8 k
  have hpl := putB_takeL T.data.toList 8 k i (by rw [Array.length_toList]; show _ ≤ T.size; omega)
  have hlt : ∀ x ∈ takeL T.data.toList i 8 k, x < 18446744073709551616 := fun x hx => by
    obtain ⟨j, _, rfl⟩ := List.mem_map.1 hx
    have := leV_lt ((T.data.toList.drop (i + j * 8)).take 8)
    have h2 : 256 ^ ((T.data.toList.drop (i + j * 8)).take 8).length ≤ 256 ^ 8 := Nat.pow_le_pow_right (by decide) (by rw [List.length_take]; omega)
    omega
  have hsl := ext_list T i (8 * k)
  rw [← hpl] at hsl
  have hrs := slice_str T i (i + 8 * k) ((i : Int) + 8 * (k : Int)) (by omega) (by omega) (by omega)
  obtain ⟨X, hX⟩ : ∃ X, X = T.extract i (i + 8 * k) := ⟨_, rfl⟩
  rw [← hX] at hsl hrs
  clear hX
  obtain ⟨L, hL⟩ : ∃ L, L = takeL T.data.toList i 8 k := ⟨_, rfl⟩
  rw [← hL] at hct hll hlt hsl
  clear hL hpl
  obtain ⟨q, hq⟩ : ∃ q, q = putB 8 L := ⟨_, rfl⟩
  rw [← hq] at hsl
  have hput : ∀ W A c, Rd W A (us L) → Calls Try.prog 16 #[.slice A k c] W fun e w' => e = .returned (.string ⟨q.toArray⟩) ∧ Below W.heap.size W w' := fun W A c hr => by
    rw [hq]
    exact put_len A L k c W hll hr (by omega) hlt
  clear hq hlt
  have HPUT := Lib.hid hput
  have HLL := Lib.hid hll
  clear hput hll
  have hch := fun W => forms_half_short T i (by omega) (by omega) (by omega) W
  have HCT := Lib.hid hct
  have HCH := Lib.hid hch
  have HPI := Lib.hid hpi
  have HPK := Lib.hid hpk
  have hTx : s.extract 0 m = T := hT.symm
  have hTb : T.size ≤ 100 := by omega
  clear hct hch hpi hpk hTs hT hm 
  have hd1 : decide ((i : Int) + 8 * (k : Int) ≤ (T.size : Int)) = true := by simp; omega
  have hd2 : decide ((i : Int) + 4 ≤ (T.size : Int)) = false := by simp; omega
  go_enter Try.func5, Try.ntmps5
  go_wp2_with fail
  refine (awake2_any _).mono ?_
  rintro e w1 ⟨rfl, hb1⟩
  go_wp2_with fail
  rw [show ((T.size : Int) + 1) = ((T.size + 1 : Nat) : Int) by omega]
  refine (HPI.out _).mono ?_
  rintro e w2 ⟨rfl, rfl⟩
  go_wp2_with fail
  refine (HPK.out _).mono ?_
  rintro e w2 ⟨rfl, rfl⟩
  go_wp2_with fail
  refine (HCT.out _).mono ?_
  rintro e w2 ⟨A1, c1, rfl, hr1, hc1, hm1, hb2⟩
  rw [HLL.out]
  go_wp2_with fail
  refine (HCH.out _).mono ?_
  rintro e w3 ⟨rfl, hb3⟩
  go_wp2_with fail
  have e1 : IntKind.i64.wrap (8 * (k : Int)) = 8 * (k : Int) := IntWalk.i64_in _ (by omega)
  have e2 : IntKind.i64.wrap ((i : Int) + 8 * (k : Int)) = (i : Int) + 8 * (k : Int) := IntWalk.i64_in _ (by omega)
  have e3 : IntKind.i64.wrap ((i : Int) + 4) = (i : Int) + 4 := IntWalk.i64_in _ (by omega)
  refine wp_region_later (by kernel_rfl) (by kernel_rfl) ?_
  repeat (go_big_quiet_step (((exact later_of (HPUT.out _ _ _ ((hr1.below hb3).below (Later.below _)))))))
  refine wpQuiet_nil ?_
  intro _ hw'
  obtain ⟨x, hw''⟩ := hw'
  subst hw''
  go_wp2_with fail
  refine wp_region_later (by kernel_rfl) (by kernel_rfl) ?_
  repeat (go_big_quiet_step (fail))
  refine wpQuiet_nil ?_
  intro _ hw'
  obtain ⟨y, hw''⟩ := hw'
  subst hw''
  go_wp2
  go_ret
  exact ⟨rfl, bl_step (bl_step (bl_step (bl_step hb1 hb2) hb3) x.below) y.below⟩
set_option maxHeartbeats 2000000 in
theorem forms_01 (s : ByteArray) (at_ n : Int) (w : World) (m : Nat) (hm : m = min s.size 100) (hs : s.size ≤ 9223372036854775807) (ha1 : -9223372036854775808 ≤ at_) (ha2 : at_ ≤ 9223372036854775807) (hn1 : -9223372036854775808 ≤ n) (hn2 : n ≤ 9223372036854775807)
    (h1 : m < pickN at_ (m + 1) + 8 * pickN n 14) (h2 : pickN at_ (m + 1) + 4 ≤ m) :
    Calls Try.prog 5 #[.string s, .int .i64 at_, .int .i64 n] w (RetTrue w) := by
  have hmin := min_is (P := Try.prog) s.size m 100 (by omega)
  have hm100 : m ≤ 100 := by omega
  have hms : m ≤ s.size := by omega
  obtain ⟨T, hT⟩ : ∃ T, T = s.extract 0 m := ⟨_, rfl⟩
  have hTs : T.size = m := by rw [hT, ByteArray.size_extract]; omega
  have hi := pickN_lt at_ (m + 1) (by omega)
  have hk := pickN_lt n 14 (by omega)
  have hpi := fun W => pick2_any at_ (m + 1) W ha1 ha2 (by omega) (by omega)
  have hpk := fun W => pick2_any n 14 W hn1 hn2 (by omega) (by omega)
  rw [← hTs] at hi hpi h1 h2
  obtain ⟨i, hi0⟩ : ∃ i, i = pickN at_ (T.size + 1) := ⟨_, rfl⟩
  obtain ⟨k, hk0⟩ : ∃ k, k = pickN n 14 := ⟨_, rfl⟩
  rw [← hi0] at hi h1 h2 hpi
  rw [← hk0] at hk h1 hpk
  clear hi0 hk0
  have hct := fun W => forms_take_short T i k (by omega) (by omega) hk (by omega) W
  have hch := fun W => forms_half_ok T i (by omega) (by omega) W
  have hlv := thV_bound T.data.toList i
  have hsh := ext_list T i 4
  rw [← leB_half T.data.toList i (by rw [Array.length_toList]; show _ ≤ T.size; omega)] at hsh
  have hrh := slice_str T i (i + 4) ((i : Int) + 4) (by omega) (by omega) (by omega)
  obtain ⟨Y, hY⟩ : ∃ Y, Y = T.extract i (i + 4) := ⟨_, rfl⟩
  rw [← hY] at hsh hrh
  clear hY
  obtain ⟨v, hv⟩ : ∃ v, v = leV ((T.data.toList.drop i).take 4) := ⟨_, rfl⟩
  rw [← hv] at hch hlv hsh
  clear hv
  obtain ⟨r, hr⟩ : ∃ r, r = leB v 4 := ⟨_, rfl⟩
  have hph := fun W => puthalf_any v W hlv
  rw [← hr] at hsh hph
  clear hr
  have HPH := Lib.hid hph
  clear hph
  have HCT := Lib.hid hct
  have HCH := Lib.hid hch
  have HPI := Lib.hid hpi
  have HPK := Lib.hid hpk
  have hTx : s.extract 0 m = T := hT.symm
  have hTb : T.size ≤ 100 := by omega
  clear hct hch hpi hpk hTs hT hm 
  have hd1 : decide ((i : Int) + 8 * (k : Int) ≤ (T.size : Int)) = false := by simp; omega
  have hd2 : decide ((i : Int) + 4 ≤ (T.size : Int)) = true := by simp; omega
  go_enter Try.func5, Try.ntmps5
  go_wp2_with fail
  refine (awake2_any _).mono ?_
  rintro e w1 ⟨rfl, hb1⟩
  go_wp2_with fail
  rw [show ((T.size : Int) + 1) = ((T.size + 1 : Nat) : Int) by omega]
  refine (HPI.out _).mono ?_
  rintro e w2 ⟨rfl, rfl⟩
  go_wp2_with fail
  refine (HPK.out _).mono ?_
  rintro e w2 ⟨rfl, rfl⟩
  go_wp2_with fail
  refine (HCT.out _).mono ?_
  rintro e w2 ⟨A1, c1, rfl, hr1, hc1, hm1, hb2⟩
  go_wp2_with fail
  refine (HCH.out _).mono ?_
  rintro e w3 ⟨rfl, hb3⟩
  go_wp2_with fail
  have e1 : IntKind.i64.wrap (8 * (k : Int)) = 8 * (k : Int) := IntWalk.i64_in _ (by omega)
  have e2 : IntKind.i64.wrap ((i : Int) + 8 * (k : Int)) = (i : Int) + 8 * (k : Int) := IntWalk.i64_in _ (by omega)
  have e3 : IntKind.i64.wrap ((i : Int) + 4) = (i : Int) + 4 := IntWalk.i64_in _ (by omega)
  refine wp_region_later (by kernel_rfl) (by kernel_rfl) ?_
  repeat (go_big_quiet_step (fail))
  refine wpQuiet_nil ?_
  intro _ hw'
  obtain ⟨x, hw''⟩ := hw'
  subst hw''
  go_wp2_with fail
  refine wp_region_later (by kernel_rfl) (by kernel_rfl) ?_
  repeat (go_big_quiet_step (((exact later_of (HPH.out _)))))
  refine wpQuiet_nil ?_
  intro _ hw'
  obtain ⟨y, hw''⟩ := hw'
  subst hw''
  go_wp2
  go_ret
  exact ⟨rfl, bl_step (bl_step (bl_step (bl_step hb1 hb2) hb3) x.below) y.below⟩
set_option maxHeartbeats 2000000 in
theorem forms_00 (s : ByteArray) (at_ n : Int) (w : World) (m : Nat) (hm : m = min s.size 100) (hs : s.size ≤ 9223372036854775807) (ha1 : -9223372036854775808 ≤ at_) (ha2 : at_ ≤ 9223372036854775807) (hn1 : -9223372036854775808 ≤ n) (hn2 : n ≤ 9223372036854775807)
    (h1 : m < pickN at_ (m + 1) + 8 * pickN n 14) (h2 : m < pickN at_ (m + 1) + 4) :
    Calls Try.prog 5 #[.string s, .int .i64 at_, .int .i64 n] w (RetTrue w) := by
  have hmin := min_is (P := Try.prog) s.size m 100 (by omega)
  have hm100 : m ≤ 100 := by omega
  have hms : m ≤ s.size := by omega
  obtain ⟨T, hT⟩ : ∃ T, T = s.extract 0 m := ⟨_, rfl⟩
  have hTs : T.size = m := by rw [hT, ByteArray.size_extract]; omega
  have hi := pickN_lt at_ (m + 1) (by omega)
  have hk := pickN_lt n 14 (by omega)
  have hpi := fun W => pick2_any at_ (m + 1) W ha1 ha2 (by omega) (by omega)
  have hpk := fun W => pick2_any n 14 W hn1 hn2 (by omega) (by omega)
  rw [← hTs] at hi hpi h1 h2
  obtain ⟨i, hi0⟩ : ∃ i, i = pickN at_ (T.size + 1) := ⟨_, rfl⟩
  obtain ⟨k, hk0⟩ : ∃ k, k = pickN n 14 := ⟨_, rfl⟩
  rw [← hi0] at hi h1 h2 hpi
  rw [← hk0] at hk h1 hpk
  clear hi0 hk0
  have hct := fun W => forms_take_short T i k (by omega) (by omega) hk (by omega) W
  have hch := fun W => forms_half_short T i (by omega) (by omega) (by omega) W
  have HCT := Lib.hid hct
  have HCH := Lib.hid hch
  have HPI := Lib.hid hpi
  have HPK := Lib.hid hpk
  have hTx : s.extract 0 m = T := hT.symm
  have hTb : T.size ≤ 100 := by omega
  clear hct hch hpi hpk hTs hT hm 
  have hd1 : decide ((i : Int) + 8 * (k : Int) ≤ (T.size : Int)) = false := by simp; omega
  have hd2 : decide ((i : Int) + 4 ≤ (T.size : Int)) = false := by simp; omega
  go_enter Try.func5, Try.ntmps5
  go_wp2_with fail
  refine (awake2_any _).mono ?_
  rintro e w1 ⟨rfl, hb1⟩
  go_wp2_with fail
  rw [show ((T.size : Int) + 1) = ((T.size + 1 : Nat) : Int) by omega]
  refine (HPI.out _).mono ?_
  rintro e w2 ⟨rfl, rfl⟩
  go_wp2_with fail
  refine (HPK.out _).mono ?_
  rintro e w2 ⟨rfl, rfl⟩
  go_wp2_with fail
  refine (HCT.out _).mono ?_
  rintro e w2 ⟨A1, c1, rfl, hr1, hc1, hm1, hb2⟩
  go_wp2_with fail
  refine (HCH.out _).mono ?_
  rintro e w3 ⟨rfl, hb3⟩
  go_wp2_with fail
  have e1 : IntKind.i64.wrap (8 * (k : Int)) = 8 * (k : Int) := IntWalk.i64_in _ (by omega)
  have e2 : IntKind.i64.wrap ((i : Int) + 8 * (k : Int)) = (i : Int) + 8 * (k : Int) := IntWalk.i64_in _ (by omega)
  have e3 : IntKind.i64.wrap ((i : Int) + 4) = (i : Int) + 4 := IntWalk.i64_in _ (by omega)
  refine wp_region_later (by kernel_rfl) (by kernel_rfl) ?_
  repeat (go_big_quiet_step (fail))
  refine wpQuiet_nil ?_
  intro _ hw'
  obtain ⟨x, hw''⟩ := hw'
  subst hw''
  go_wp2_with fail
  refine wp_region_later (by kernel_rfl) (by kernel_rfl) ?_
  repeat (go_big_quiet_step (fail))
  refine wpQuiet_nil ?_
  intro _ hw'
  obtain ⟨y, hw''⟩ := hw'
  subst hw''
  go_wp2
  go_ret
  exact ⟨rfl, bl_step (bl_step (bl_step (bl_step hb1 hb2) hb3) x.below) y.below⟩

theorem forms_walk (s : ByteArray) (at_ n : Int) (w : World) (hs : s.size ≤ 9223372036854775807) (ha1 : -9223372036854775808 ≤ at_) (ha2 : at_ ≤ 9223372036854775807) (hn1 : -9223372036854775808 ≤ n) (hn2 : n ≤ 9223372036854775807) :
    Calls Try.prog 5 #[.string s, .int .i64 at_, .int .i64 n] w (RetTrue w) := by
  obtain ⟨m, hm⟩ : ∃ m, m = min s.size 100 := ⟨_, rfl⟩
  rcases Nat.lt_or_ge m (pickN at_ (m + 1) + 8 * pickN n 14) with h1 | h1 <;> rcases Nat.lt_or_ge m (pickN at_ (m + 1) + 4) with h2 | h2
  · exact forms_00 s at_ n w m hm hs ha1 ha2 hn1 hn2 h1 h2
  · exact forms_01 s at_ n w m hm hs ha1 ha2 hn1 hn2 h1 h2
  · exact forms_10 s at_ n w m hm hs ha1 ha2 hn1 hn2 h1 h2
  · exact forms_11 s at_ n w m hm hs ha1 ha2 hn1 hn2 h1 h2
end Go.Proofs.Ytdnngacamdohiaa
