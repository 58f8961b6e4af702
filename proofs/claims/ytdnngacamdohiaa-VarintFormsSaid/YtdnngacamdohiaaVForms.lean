/-
  VarintForms: the walk of the law. Conditions: integers that fit.
-/
import Derived.Test.YtdnngacamdohiaaVBack
namespace Go.Proofs.Ytdnngacamdohiaa
open Go.RowKit

theorem vext_list (T : ByteArray) (i j : Nat) : T.extract i j = ⟨((T.data.toList.drop i).take (j - i)).toArray⟩ := by
  apply ByteArray.ext
  apply Array.ext'
  rw [Lib.extract_data]
theorem vslice_str (T : ByteArray) (i j : Nat) (x : Int) (q : List UInt8) (hx : x = (j : Int)) (h1 : i ≤ j) (h2 : j ≤ T.size) (hq : (T.data.toList.drop i).take (j - i) = q) : ∀ W, (Instr.slice 9 (.string T) (some (.int .i64 (i : Int))) (some (.int .i64 x)) none).run Try.prog W = .ok (.string ⟨q.toArray⟩) W := fun W => by
  subst hx
  rw [run_slice_string_if W 9 T .i64 .i64 (i : Int) (j : Int) Try.underlying9, if_pos (by omega), if_pos (by omega)]
  simp only [Int.toNat_natCast]
  rw [vext_list, hq]

/-- What Take says of a place in the text: a number that stands there, or nothing. -/
theorem vf_take (T : ByteArray) (i : Nat) (hT : T.size ≤ 100) : 
    (∃ v u : Nat, (∀ W, Calls Try.prog 34 #[.string T, .int .i64 (i : Int)] W (fun e w' => e = .returned (.tuple #[.int .u64 (v : Int), .int .i64 ((i : Int) + (u : Int)), .int .i64 0]) ∧ W = w')) ∧ v < 18446744073709551616 ∧ i + u ≤ T.size ∧ (T.data.toList.drop i).take u = vB v) ∨
    (∃ e : Nat, e ≠ 0 ∧ ∀ W, Calls Try.prog 34 #[.string T, .int .i64 (i : Int)] W (fun en w' => en = .returned (.tuple #[.int .u64 0, .int .i64 0, .int .i64 (e : Int)]) ∧ W = w')) := by
  have h := fun W => vtake_any T (i : Int) W (by omega)
  by_cases he : (tk T.data.toList (i : Int)).1 = 0
  · rcases htk : tk T.data.toList (i : Int) with ⟨e, v, u⟩
    rw [htk] at he h
    have he0 : e = 0 := he
    subst he0
    have hf := tk_form htk
    have hin := tk_in (l := T.data.toList) (x := (i : Int)) (by rw [htk])
    rw [htk] at hin
    exact Or.inl ⟨v, u, h, hin.2.2.2, by simpa using hf.2.2, hf.1⟩
  · have hb := tk_bad _ _ he
    rcases htk : tk T.data.toList (i : Int) with ⟨e, v, u⟩
    rw [htk] at he h hb
    have he0 : e ≠ 0 := he
    injection hb with h1 h2
    subst h1; subst h2
    refine Or.inr ⟨e, he0, fun W => (h W).mono ?_⟩
    rintro en w' ⟨rfl, rfl⟩
    exact ⟨by rw [if_neg he0]; rfl, rfl⟩

theorem trow_nat2 (l : List UInt8) (i m : Nat) : trow l (i : Int) (m : Int) = tr l m [] (i : Int) := by
  rw [trow, if_neg (by omega), Int.toNat_natCast]

theorem vf_row (T : ByteArray) (i m : Nat) (hT : T.size ≤ 100) (hi : i ≤ T.size) (hm : m ≤ 100) :
    (∃ (L : List Nat) (j : Nat), (∀ W, Calls Try.prog 36 #[.string T, .int .i64 (i : Int), .int .i64 (m : Int)] W (RetTake L (j : Int) 0 W)) ∧ L.length = m ∧ i ≤ j ∧ j ≤ T.size ∧ (T.data.toList.drop i).take (j - i) = rowB L ∧ ∀ x ∈ L, x < 18446744073709551616) ∨
    (∃ e : Nat, e ≠ 0 ∧ ∀ W, Calls Try.prog 36 #[.string T, .int .i64 (i : Int), .int .i64 (m : Int)] W (RetTake [] 0 (e : Int) W)) := by
  have h := fun W => takerow_any T (i : Int) (m : Int) W (by omega) (by omega)
  rw [trow_nat2] at h
  by_cases he : (tr T.data.toList m [] (i : Int)).1 = 0
  · rcases htr : tr T.data.toList m [] (i : Int) with ⟨e, L, y⟩
    rw [htr] at he h
    have he0 : e = 0 := he
    subst he0
    obtain ⟨L', j, e1, e2, e3, e4, e5, e6, e7⟩ := tr_form T.data.toList m [] L i y (by simpa using hi) htr
    rw [List.nil_append] at e1
    subst e1; subst e3
    exact Or.inl ⟨L, j, h, e2, e4, by simpa using e5, e6, e7⟩
  · have hb := tr_err _ _ _ _ he
    rcases htr : tr T.data.toList m [] (i : Int) with ⟨e, L, y⟩
    rw [htr] at he h hb
    have he0 : e ≠ 0 := he
    injection hb with h1 h2
    subst h1; subst h2
    exact Or.inr ⟨e, he0, h⟩

theorem vrow_len2 (A : Option Addr) (l : List Nat) (n c : Nat) (w : World) (e : l.length = n) (hr : Rd w A (us l)) (hl : n ≤ 10000) (hv : ∀ x ∈ l, x < 18446744073709551616) :
    Calls Try.prog 31 #[.slice A n c] w fun e w' => e = .returned (.string ⟨(rowB l).toArray⟩) ∧ Below w.heap.size w w' := by
  subst e; exact row_any A l c w hr hl hv

set_option maxRecDepth 100000 in
set_option maxHeartbeats 4000000 in
theorem vforms_walk (s : ByteArray) (at_ n : Int) (w : World) (hs : s.size ≤ 9223372036854775807) (ha1 : -9223372036854775808 ≤ at_) (ha2 : at_ ≤ 9223372036854775807) (hn1 : -9223372036854775808 ≤ n) (hn2 : n ≤ 9223372036854775807) :
    Calls Try.prog 11 #[.string s, .int .i64 at_, .int .i64 n] w (RetTrue w) := by
  obtain ⟨m, hm⟩ : ∃ m, m = min s.size 40 := ⟨_, rfl⟩
  have hmin := min_is (P := Try.prog) s.size m 40 (by omega)
  have hm100 : m ≤ 40 := by omega
  have hms : m ≤ s.size := by omega
  clear hm
  obtain ⟨T, hT⟩ : ∃ T, T = s.extract 0 m := ⟨_, rfl⟩
  have hTs : T.size = m := by rw [hT, ByteArray.size_extract]; omega
  have hTx : s.extract 0 m = T := hT.symm
  clear hT
  have hT40 : T.size ≤ 40 := by omega
  have hi := pickN_lt at_ (T.size + 1) (by omega)
  have hk := pickN_lt n 12 (by omega)
  have hpi := fun W => pick1_any at_ (T.size + 1) W ha1 ha2 (by omega) (by omega)
  have hpk := fun W => pick1_any n 12 W hn1 hn2 (by omega) (by omega)
  obtain ⟨i, hi0⟩ : ∃ i, i = pickN at_ (T.size + 1) := ⟨_, rfl⟩
  obtain ⟨k, hk0⟩ : ∃ k, k = pickN n 12 := ⟨_, rfl⟩
  rw [← hi0] at hi hpi
  rw [← hk0] at hk hpk
  clear hi0 hk0 hTs
  have HPI := Lib.hid hpi
  have HPK := Lib.hid hpk
  clear hpi hpk
  have hvt := vf_take T i (by omega)
  have hvr := vf_row T i k (by omega) (by omega) (by omega)
  have HVT := Lib.hid hvt
  have HVR := Lib.hid hvr
  clear hvt hvr
  go_enter Try.func11, Try.ntmps11
  go_wp2_with fail
  refine (awake1_any _).mono ?_
  rintro e w1 ⟨rfl, hb1⟩
  go_wp2_with fail
  rw [show ((T.size : Int) + 1) = ((T.size + 1 : Nat) : Int) by omega]
  refine (HPI.out _).mono ?_
  rintro e w2 ⟨rfl, rfl⟩
  clear HPI
  rcases HVT.out with ⟨v, u, hct, hv64, hiu, hvq⟩ | ⟨e1, he1, hct⟩
  · have hsl := vslice_str T i (i + u) ((i : Int) + (u : Int)) (vB v) (by omega) (by omega) hiu (by rw [Nat.add_sub_cancel_left]; exact hvq)
    have hput := fun W => vput_any v W hv64
    have hd1 : decide ((i : Int) + (u : Int) < (i : Int)) = false := by simp; omega
    have hd2 : decide ((T.size : Int) < (i : Int) + (u : Int)) = false := by simp; omega
    obtain ⟨q, hq⟩ : ∃ q, q = vB v := ⟨_, rfl⟩
    rw [← hq] at hsl hput
    have HCT := Lib.hid hct
    have HPUT := Lib.hid hput
    clear hct hput hq hvq HVT
    go_wp2_with fail
    refine (HCT.out _).mono ?_
    rintro e w2 ⟨rfl, rfl⟩
    go_wp2_with fail
    refine (HPK.out _).mono ?_
    rintro e w2 ⟨rfl, rfl⟩
    rcases HVR.out with ⟨L, j, hcr, hll, hij, hjT, hrq, hlv⟩ | ⟨e2, he2, hcr⟩
    · go_wp2_with fail
      refine (hcr _).mono ?_
      rintro e w2 ⟨A1, c1, rfl, hr1, hc1, hm1, hb2⟩
      have hsr := vslice_str T i j (j : Int) (rowB L) rfl hij hjT hrq
      have hrow : ∀ W A c, Rd W A (us L) → Calls Try.prog 31 #[.slice A k c] W fun e w' => e = .returned (.string ⟨(rowB L).toArray⟩) ∧ Below W.heap.size W w' := fun W A c hr => vrow_len2 A L k c W hll hr (by omega) hlv
      obtain ⟨r, hr⟩ : ∃ r, r = rowB L := ⟨_, rfl⟩
      rw [← hr] at hsr hrow
      have HROW := Lib.hid hrow
      have hd3 : decide (j < i) = false := by simp; omega
      have hd4 : decide (T.size < j) = false := by simp; omega
      rw [hll]
      clear hrow hr hrq hlv
      go_wp2_with fail
      refine wp_region_later (by kernel_rfl) (by kernel_rfl) ?_
      repeat (go_big_quiet_step ((exact later_of (HPUT.out _))))
      refine wpQuiet_nil ?_
      intro _ hw'
      obtain ⟨x, hw''⟩ := hw'
      subst hw''
      go_wp2_with fail
      refine wp_region_later (by kernel_rfl) (by kernel_rfl) ?_
      repeat (go_big_quiet_step ((first | exact later_same (HPK.out _) | exact later_of (HROW.out _ _ _ ((hr1.below x.below).below (Later.below _))))))
      refine wpQuiet_nil ?_
      intro _ hw'
      obtain ⟨y, hw''⟩ := hw'
      subst hw''
      go_wp2
      go_ret
      exact ⟨rfl, bl_step (bl_step (bl_step hb1 hb2) x.below) y.below⟩
    · go_wp2_with fail
      refine (hcr _).mono ?_
      rintro e w2 ⟨A1, c1, rfl, hr1, hc1, hm1, hb2⟩
      have hee3 : ((e2 : Int) != 0) = true := by simp [he2]
      have hee4 : ((e2 : Int) == 0) = false := by simp [he2]
      go_wp2_with fail
      refine wp_region_later (by kernel_rfl) (by kernel_rfl) ?_
      repeat (go_big_quiet_step ((exact later_of (HPUT.out _))))
      refine wpQuiet_nil ?_
      intro _ hw'
      obtain ⟨x, hw''⟩ := hw'
      subst hw''
      go_wp2_with fail
      refine wp_region_later (by kernel_rfl) (by kernel_rfl) ?_
      repeat (go_big_quiet_step (fail))
      refine wpQuiet_nil ?_
      intro _ hw'
      obtain ⟨y, hw''⟩ := hw'
      subst hw''
      go_wp2
      go_ret
      exact ⟨rfl, bl_step (bl_step (bl_step hb1 hb2) x.below) y.below⟩
  · have hee : ((e1 : Int) != 0) = true := by simp [he1]
    have hee2 : ((e1 : Int) == 0) = false := by simp [he1]
    go_wp2_with fail
    refine (hct _).mono ?_
    rintro e w2 ⟨rfl, rfl⟩
    go_wp2_with fail
    refine (HPK.out _).mono ?_
    rintro e w2 ⟨rfl, rfl⟩
    rcases HVR.out with ⟨L, j, hcr, hll, hij, hjT, hrq, hlv⟩ | ⟨e2, he2, hcr⟩
    · go_wp2_with fail
      refine (hcr _).mono ?_
      rintro e w2 ⟨A1, c1, rfl, hr1, hc1, hm1, hb2⟩
      have hsr := vslice_str T i j (j : Int) (rowB L) rfl hij hjT hrq
      have hrow : ∀ W A c, Rd W A (us L) → Calls Try.prog 31 #[.slice A k c] W fun e w' => e = .returned (.string ⟨(rowB L).toArray⟩) ∧ Below W.heap.size W w' := fun W A c hr => vrow_len2 A L k c W hll hr (by omega) hlv
      obtain ⟨r, hr⟩ : ∃ r, r = rowB L := ⟨_, rfl⟩
      rw [← hr] at hsr hrow
      have HROW := Lib.hid hrow
      have hd3 : decide (j < i) = false := by simp; omega
      have hd4 : decide (T.size < j) = false := by simp; omega
      rw [hll]
      clear hrow hr hrq hlv
      go_wp2_with fail
      refine wp_region_later (by kernel_rfl) (by kernel_rfl) ?_
      repeat (go_big_quiet_step (fail))
      refine wpQuiet_nil ?_
      intro _ hw'
      obtain ⟨x, hw''⟩ := hw'
      subst hw''
      go_wp2_with fail
      refine wp_region_later (by kernel_rfl) (by kernel_rfl) ?_
      repeat (go_big_quiet_step ((first | exact later_same (HPK.out _) | exact later_of (HROW.out _ _ _ ((hr1.below x.below).below (Later.below _))))))
      refine wpQuiet_nil ?_
      intro _ hw'
      obtain ⟨y, hw''⟩ := hw'
      subst hw''
      go_wp2
      go_ret
      exact ⟨rfl, bl_step (bl_step (bl_step hb1 hb2) x.below) y.below⟩
    · go_wp2_with fail
      refine (hcr _).mono ?_
      rintro e w2 ⟨A1, c1, rfl, hr1, hc1, hm1, hb2⟩
      have hee3 : ((e2 : Int) != 0) = true := by simp [he2]
      have hee4 : ((e2 : Int) == 0) = false := by simp [he2]
      go_wp2_with fail
      refine wp_region_later (by kernel_rfl) (by kernel_rfl) ?_
      repeat (go_big_quiet_step (fail))
      refine wpQuiet_nil ?_
      intro _ hw'
      obtain ⟨x, hw''⟩ := hw'
      subst hw''
      go_wp2_with fail
      refine wp_region_later (by kernel_rfl) (by kernel_rfl) ?_
      repeat (go_big_quiet_step (fail))
      refine wpQuiet_nil ?_
      intro _ hw'
      obtain ⟨y, hw''⟩ := hw'
      subst hw''
      go_wp2
      go_ret
      exact ⟨rfl, bl_step (bl_step (bl_step hb1 hb2) x.below) y.below⟩
end Go.Proofs.Ytdnngacamdohiaa
