/-
  Contracts of layer 10: New of both. Conditions: integers that fit.
-/
import Derived.Test.YtappejihclmjmaaHF
import Derived.Laws.MakeOwn
namespace Go.Proofs.Ytappejihclmjmaa
open Go.RowKit

/-- What New hands back: the error's number, and the heap. -/
def newE (b n r : Int) : Int := if b = 0 ∨ n < 0 ∨ 4096 < n ∨ r < 0 ∨ 16 < r then 1 else if 9223372036854775808 - 2 * n < b then 9 else 0
def newH (b n r : Int) : Hp := if newE b n r = 0 then ⟨b, n, 0, false, 0, [], [], [], [], List.replicate r.toNat 0⟩ else hpz

theorem zeros_read (w : World) (n : Nat) (t : TypeId) : Rd (w.alloc (.cells (madeCells #[.int .u64 0] (n * 1)) t)) (some ⟨w.heap.size, 0, none⟩) (us (List.replicate n 0)) := by
  refine Rd.lit w _ t _ ?_
  apply List.ext_getElem?
  intro i
  by_cases hi : i < n
  · simp [madeCells, us, hi, Nat.mod_one]
  · simp [madeCells, us, hi]

set_option maxRecDepth 100000 in
set_option maxHeartbeats 2000000 in
theorem new_any (b n r : Int) (w : World) (hb : 0 ≤ b ∧ b < 18446744073709551616) (hn : -9223372036854775808 ≤ n ∧ n ≤ 9223372036854775807) (hr : -9223372036854775808 ≤ r ∧ r ≤ 9223372036854775807) :
    Calls Try.prog 30 #[.int .u64 b, .int .i64 n, .int .i64 r] w (HeapRet (newH b n r) (newE b n r) w) := by
  obtain ⟨hb1, hb2⟩ := hb
  obtain ⟨hn1, hn2⟩ := hn
  obtain ⟨hr1, hr2⟩ := hr
  by_cases c1 : b = 0
  · rw [show newE b n r = 1 from if_pos (by omega), newH, show newE b n r = 1 from if_pos (by omega), if_neg (by omega)]
    have c1' : (b == 0) = true := beq_iff_eq.2 c1
    clear c1
    go_enter Try.func30, Try.ntmps30
    go_wp2
    exact bodyPost_ret (v := .tuple #[.agg #[.int .u64 0, .int .i64 0, .int .i64 0, .bool false, .int .i64 0, .slice none 0 0, .slice none 0 0, .slice none 0 0, .slice none 0 0, .slice none 0 0], .int .i64 1]) (by simp [results, Try.results30, go_sem]) rfl ⟨hvz, rfl, hvz_is _, bl_alloc (bl_refl w) _⟩
  have c1' : (b == 0) = false := beq_eq_false_iff_ne.2 c1
  have c1p : 1 ≤ b := by omega
  by_cases c2 : n < 0
  · rw [show newE b n r = 1 from if_pos (by omega), newH, show newE b n r = 1 from if_pos (by omega), if_neg (by omega)]
    go_enter Try.func30, Try.ntmps30
    go_wp2
    exact bodyPost_ret (v := .tuple #[.agg #[.int .u64 0, .int .i64 0, .int .i64 0, .bool false, .int .i64 0, .slice none 0 0, .slice none 0 0, .slice none 0 0, .slice none 0 0, .slice none 0 0], .int .i64 1]) (by simp [results, Try.results30, go_sem]) rfl ⟨hvz, rfl, hvz_is _, bl_alloc (bl_refl w) _⟩
  have c2 : 0 ≤ n := by omega
  by_cases c3 : 4096 < n
  · rw [show newE b n r = 1 from if_pos (by omega), newH, show newE b n r = 1 from if_pos (by omega), if_neg (by omega)]
    go_enter Try.func30, Try.ntmps30
    go_wp2
    exact bodyPost_ret (v := .tuple #[.agg #[.int .u64 0, .int .i64 0, .int .i64 0, .bool false, .int .i64 0, .slice none 0 0, .slice none 0 0, .slice none 0 0, .slice none 0 0, .slice none 0 0], .int .i64 1]) (by simp [results, Try.results30, go_sem]) rfl ⟨hvz, rfl, hvz_is _, bl_alloc (bl_refl w) _⟩
  have c3 : n ≤ 4096 := by omega
  by_cases c4 : r < 0
  · rw [show newE b n r = 1 from if_pos (by omega), newH, show newE b n r = 1 from if_pos (by omega), if_neg (by omega)]
    go_enter Try.func30, Try.ntmps30
    go_wp2
    exact bodyPost_ret (v := .tuple #[.agg #[.int .u64 0, .int .i64 0, .int .i64 0, .bool false, .int .i64 0, .slice none 0 0, .slice none 0 0, .slice none 0 0, .slice none 0 0, .slice none 0 0], .int .i64 1]) (by simp [results, Try.results30, go_sem]) rfl ⟨hvz, rfl, hvz_is _, bl_alloc (bl_refl w) _⟩
  have c4 : 0 ≤ r := by omega
  by_cases c5 : 16 < r
  · rw [show newE b n r = 1 from if_pos (by omega), newH, show newE b n r = 1 from if_pos (by omega), if_neg (by omega)]
    go_enter Try.func30, Try.ntmps30
    go_wp2
    exact bodyPost_ret (v := .tuple #[.agg #[.int .u64 0, .int .i64 0, .int .i64 0, .bool false, .int .i64 0, .slice none 0 0, .slice none 0 0, .slice none 0 0, .slice none 0 0, .slice none 0 0], .int .i64 1]) (by simp [results, Try.results30, go_sem]) rfl ⟨hvz, rfl, hvz_is _, bl_alloc (bl_refl w) _⟩
  have c5 : r ≤ 16 := by omega
  by_cases c6 : 9223372036854775808 - 2 * n < b
  · rw [show newE b n r = 9 from by rw [newE, if_neg (by omega), if_pos c6], newH, show newE b n r = 9 from by rw [newE, if_neg (by omega), if_pos c6], if_neg (by omega)]
    go_enter Try.func30, Try.ntmps30
    go_wp2
    exact bodyPost_ret (v := .tuple #[.agg #[.int .u64 0, .int .i64 0, .int .i64 0, .bool false, .int .i64 0, .slice none 0 0, .slice none 0 0, .slice none 0 0, .slice none 0 0, .slice none 0 0], .int .i64 9]) (by simp [results, Try.results30, go_sem]) rfl ⟨hvz, rfl, hvz_is _, bl_alloc (bl_refl w) _⟩
  have c6 : b ≤ 9223372036854775808 - 2 * n := by omega
  have hE : newE b n r = 0 := by rw [newE, if_neg (by omega), if_neg (by omega)]
  rw [newH, if_pos hE, hE]
  obtain ⟨i0, hi, hz0, hz1, hz2⟩ := info_parts info_u64
  have hmk : ∀ W : World, (Instr.makeSlice 40 (.int .i64 r) (.int .i64 r)).run Try.prog W = .ok (.slice (some ⟨W.heap.size, 0, none⟩) r.toNat r.toNat) (W.alloc (.cells (madeCells #[.int .u64 0] (r.toNat * 1)) 22)) := fun W => by
    have := run_make (P := Try.prog) W 40 22 i0 (.int .u64 0) Try.underlying40 hi hz0 .i64 .i64 r r c4 (Int.le_refl _) (by rw [hz2]; omega) (by omega)
    rw [hz1] at this
    exact this
  clear hE c1 hi hz0 hz1 hz2
  obtain ⟨m, hm⟩ : ∃ m, m = r.toNat := ⟨_, rfl⟩
  rw [← hm] at hmk ⊢
  have hm16 : m ≤ 16 := by omega
  obtain ⟨C, hC⟩ : ∃ C, C = madeCells #[Value.int .u64 0] (m * 1) := ⟨_, rfl⟩
  have hrd := fun W : World => zeros_read W m 22
  rw [← hC] at hmk
  simp only [← hC] at hrd
  have HRD := Lib.hid hrd
  clear hC hm hrd
  go_enter Try.func30, Try.ntmps30
  go_wp2
  refine bodyPost_ret (v := .tuple #[.agg #[.int .u64 b, .int .i64 n, .int .i64 0, .bool false, .int .i64 0, .slice none 0 0, .slice none 0 0, .slice none 0 0, .slice none 0 0, .slice (some ⟨w.heap.size + 1, 0, none⟩) m m], .int .i64 0]) (by simp [results, Try.results30, go_sem]) rfl ?_
  refine ⟨⟨b, n, 0, false, 0, .nil, .nil, .nil, .nil, ⟨some ⟨w.heap.size + 1, 0, none⟩, m, m⟩⟩, rfl, ⟨⟨rfl, rfl, rfl, rfl, rfl⟩, nil_is _, nil_is _, nil_is _, nil_is _, by simp, Nat.le_refl _, by show m ≤ 9223372036854775807; omega, ?_⟩, bl_alloc (bl_alloc (bl_refl w) _) _⟩
  have := HRD.out (w.alloc (.cells #[.int .u64 b, .int .i64 n, .int .i64 0, .bool false, .int .i64 0, .slice none 0 0, .slice none 0 0, .slice none 0 0, .slice none 0 0, .slice (some ⟨w.heap.size + 1, 0, none⟩) m m] 50))
  simpa using this

set_option maxRecDepth 100000 in
set_option maxHeartbeats 2000000 in
theorem rnew_any (b n r : Int) (w : World) (hb : 0 ≤ b ∧ b < 18446744073709551616) (hn : -9223372036854775808 ≤ n ∧ n ≤ 9223372036854775807) (hr : -9223372036854775808 ≤ r ∧ r ≤ 9223372036854775807) :
    Calls Try.prog 31 #[.int .u64 b, .int .i64 n, .int .i64 r] w (HeapRet (newH b n r) (newE b n r) w) := by
  obtain ⟨hb1, hb2⟩ := hb
  obtain ⟨hn1, hn2⟩ := hn
  obtain ⟨hr1, hr2⟩ := hr
  by_cases c1 : b = 0
  · rw [show newE b n r = 1 from if_pos (by omega), newH, show newE b n r = 1 from if_pos (by omega), if_neg (by omega)]
    have c1' : (b == 0) = true := beq_iff_eq.2 c1
    clear c1
    go_enter Try.func31, Try.ntmps31
    go_wp2
    exact bodyPost_ret (v := .tuple #[.agg #[.int .u64 0, .int .i64 0, .int .i64 0, .bool false, .int .i64 0, .slice none 0 0, .slice none 0 0, .slice none 0 0, .slice none 0 0, .slice none 0 0], .int .i64 1]) (by simp [results, Try.results31, go_sem]) rfl ⟨hvz, rfl, hvz_is _, bl_alloc (bl_refl w) _⟩
  have c1' : (b == 0) = false := beq_eq_false_iff_ne.2 c1
  have c1p : 1 ≤ b := by omega
  by_cases c2 : n < 0
  · rw [show newE b n r = 1 from if_pos (by omega), newH, show newE b n r = 1 from if_pos (by omega), if_neg (by omega)]
    go_enter Try.func31, Try.ntmps31
    go_wp2
    exact bodyPost_ret (v := .tuple #[.agg #[.int .u64 0, .int .i64 0, .int .i64 0, .bool false, .int .i64 0, .slice none 0 0, .slice none 0 0, .slice none 0 0, .slice none 0 0, .slice none 0 0], .int .i64 1]) (by simp [results, Try.results31, go_sem]) rfl ⟨hvz, rfl, hvz_is _, bl_alloc (bl_refl w) _⟩
  have c2 : 0 ≤ n := by omega
  by_cases c3 : 4096 < n
  · rw [show newE b n r = 1 from if_pos (by omega), newH, show newE b n r = 1 from if_pos (by omega), if_neg (by omega)]
    go_enter Try.func31, Try.ntmps31
    go_wp2
    exact bodyPost_ret (v := .tuple #[.agg #[.int .u64 0, .int .i64 0, .int .i64 0, .bool false, .int .i64 0, .slice none 0 0, .slice none 0 0, .slice none 0 0, .slice none 0 0, .slice none 0 0], .int .i64 1]) (by simp [results, Try.results31, go_sem]) rfl ⟨hvz, rfl, hvz_is _, bl_alloc (bl_refl w) _⟩
  have c3 : n ≤ 4096 := by omega
  by_cases c4 : r < 0
  · rw [show newE b n r = 1 from if_pos (by omega), newH, show newE b n r = 1 from if_pos (by omega), if_neg (by omega)]
    go_enter Try.func31, Try.ntmps31
    go_wp2
    exact bodyPost_ret (v := .tuple #[.agg #[.int .u64 0, .int .i64 0, .int .i64 0, .bool false, .int .i64 0, .slice none 0 0, .slice none 0 0, .slice none 0 0, .slice none 0 0, .slice none 0 0], .int .i64 1]) (by simp [results, Try.results31, go_sem]) rfl ⟨hvz, rfl, hvz_is _, bl_alloc (bl_refl w) _⟩
  have c4 : 0 ≤ r := by omega
  by_cases c5 : 16 < r
  · rw [show newE b n r = 1 from if_pos (by omega), newH, show newE b n r = 1 from if_pos (by omega), if_neg (by omega)]
    go_enter Try.func31, Try.ntmps31
    go_wp2
    exact bodyPost_ret (v := .tuple #[.agg #[.int .u64 0, .int .i64 0, .int .i64 0, .bool false, .int .i64 0, .slice none 0 0, .slice none 0 0, .slice none 0 0, .slice none 0 0, .slice none 0 0], .int .i64 1]) (by simp [results, Try.results31, go_sem]) rfl ⟨hvz, rfl, hvz_is _, bl_alloc (bl_refl w) _⟩
  have c5 : r ≤ 16 := by omega
  by_cases c6 : 9223372036854775808 - 2 * n < b
  · rw [show newE b n r = 9 from by rw [newE, if_neg (by omega), if_pos c6], newH, show newE b n r = 9 from by rw [newE, if_neg (by omega), if_pos c6], if_neg (by omega)]
    go_enter Try.func31, Try.ntmps31
    go_wp2
    exact bodyPost_ret (v := .tuple #[.agg #[.int .u64 0, .int .i64 0, .int .i64 0, .bool false, .int .i64 0, .slice none 0 0, .slice none 0 0, .slice none 0 0, .slice none 0 0, .slice none 0 0], .int .i64 9]) (by simp [results, Try.results31, go_sem]) rfl ⟨hvz, rfl, hvz_is _, bl_alloc (bl_refl w) _⟩
  have c6 : b ≤ 9223372036854775808 - 2 * n := by omega
  have hE : newE b n r = 0 := by rw [newE, if_neg (by omega), if_neg (by omega)]
  rw [newH, if_pos hE, hE]
  obtain ⟨i0, hi, hz0, hz1, hz2⟩ := info_parts info_u64
  have hmk : ∀ W : World, (Instr.makeSlice 40 (.int .i64 r) (.int .i64 r)).run Try.prog W = .ok (.slice (some ⟨W.heap.size, 0, none⟩) r.toNat r.toNat) (W.alloc (.cells (madeCells #[.int .u64 0] (r.toNat * 1)) 22)) := fun W => by
    have := run_make (P := Try.prog) W 40 22 i0 (.int .u64 0) Try.underlying40 hi hz0 .i64 .i64 r r c4 (Int.le_refl _) (by rw [hz2]; omega) (by omega)
    rw [hz1] at this
    exact this
  clear hE c1 hi hz0 hz1 hz2
  obtain ⟨m, hm⟩ : ∃ m, m = r.toNat := ⟨_, rfl⟩
  rw [← hm] at hmk ⊢
  have hm16 : m ≤ 16 := by omega
  obtain ⟨C, hC⟩ : ∃ C, C = madeCells #[Value.int .u64 0] (m * 1) := ⟨_, rfl⟩
  have hrd := fun W : World => zeros_read W m 22
  rw [← hC] at hmk
  simp only [← hC] at hrd
  have HRD := Lib.hid hrd
  clear hC hm hrd
  go_enter Try.func31, Try.ntmps31
  go_wp2
  refine bodyPost_ret (v := .tuple #[.agg #[.int .u64 b, .int .i64 n, .int .i64 0, .bool false, .int .i64 0, .slice none 0 0, .slice none 0 0, .slice none 0 0, .slice none 0 0, .slice (some ⟨w.heap.size + 1, 0, none⟩) m m], .int .i64 0]) (by simp [results, Try.results31, go_sem]) rfl ?_
  refine ⟨⟨b, n, 0, false, 0, .nil, .nil, .nil, .nil, ⟨some ⟨w.heap.size + 1, 0, none⟩, m, m⟩⟩, rfl, ⟨⟨rfl, rfl, rfl, rfl, rfl⟩, nil_is _, nil_is _, nil_is _, nil_is _, by simp, Nat.le_refl _, by show m ≤ 9223372036854775807; omega, ?_⟩, bl_alloc (bl_alloc (bl_refl w) _) _⟩
  have := HRD.out (w.alloc (.cells #[.int .u64 b, .int .i64 n, .int .i64 0, .bool false, .int .i64 0, .slice none 0 0, .slice none 0 0, .slice none 0 0, .slice none 0 0, .slice (some ⟨w.heap.size + 1, 0, none⟩) m m] 50))
  simpa using this

end Go.Proofs.Ytappejihclmjmaa
