/-
  The walks of Take and TakeHalf, of the program. Conditions: a text that is not great, as typed.
-/
import Derived.Test.YtdnngacamdohiaaWordsC
namespace Go.Proofs.Ytdnngacamdohiaa
open Go.RowKit

/-- The call hands back a slice that reads L, two numbers; below the heap's size nothing has turned. -/
def RetTake (L : List Nat) (next err : Int) (w : World) (en : Ending) (w' : World) : Prop :=
  ∃ A c, en = .returned (.tuple #[.slice A L.length c, .int .i64 next, .int .i64 err]) ∧ Rd w' A (us L) ∧ L.length ≤ c ∧ c ≤ maxLen ∧ Below w.heap.size w w'

set_option maxHeartbeats 400000 in
theorem take8_arg (s : ByteArray) (a n : Int) (w : World) (h : a < 0 ∨ n < 0) :
    Calls Try.prog 41 #[.string s, .int .i64 a, .int .i64 n, .int .i64 8] w (RetTake [] 0 1 w) := by
  rcases h with h | h
  · go_enter Try.func41, Try.ntmps41
    go_wp2
    go_ret3
    exact ⟨none, 0, rfl, Rd.none_ _ _, by simp, by simp [maxLen], Below.refl _ _⟩
  · by_cases h0 : a < 0
    · go_enter Try.func41, Try.ntmps41
      go_wp2
      go_ret3
      exact ⟨none, 0, rfl, Rd.none_ _ _, by simp, by simp [maxLen], Below.refl _ _⟩
    · have h1 : 0 ≤ a := by omega
      clear h0
      go_enter Try.func41, Try.ntmps41
      go_wp2
      go_ret3
      exact ⟨none, 0, rfl, Rd.none_ _ _, by simp, by simp [maxLen], Below.refl _ _⟩

set_option maxHeartbeats 400000 in
theorem take8_short (s : ByteArray) (a n : Int) (w : World) (hs : s.size ≤ 1000000) (h1 : 0 ≤ a) (h2 : 0 ≤ n) (h : (s.size : Int) < a ∨ ((s.size : Int) - a) / 8 < n) (ha : a ≤ 9223372036854775807) (hn : n ≤ 9223372036854775807) :
    Calls Try.prog 41 #[.string s, .int .i64 a, .int .i64 n, .int .i64 8] w (RetTake [] 0 2 w) := by
  by_cases h0 : (s.size : Int) < a
  · clear h
    go_enter Try.func41, Try.ntmps41
    go_wp2
    go_ret3
    exact ⟨none, 0, rfl, Rd.none_ _ _, by simp, by simp [maxLen], Below.refl _ _⟩
  · have h3 : a ≤ (s.size : Int) := by omega
    have h4 : ((s.size : Int) - a) / 8 < n := by omega
    clear h h0
    go_enter Try.func41, Try.ntmps41
    go_wp2
    go_ret3
    exact ⟨none, 0, rfl, Rd.none_ _ _, by simp, by simp [maxLen], Below.refl _ _⟩

def TkRel (k n : Nat) (body : List UInt8) (W : World) (l i : Value) (wr : World) : Prop :=
  ∃ q, q ≤ n ∧ i = .int .i64 ((q * k : Nat) : Int) ∧ wr.ownsRow W.heap.size 40 1 l q (us (takeL body 0 k q)) ∧ Below W.heap.size W wr

set_option maxHeartbeats 400000 in
theorem take8_ok (s : ByteArray) (a n : Nat) (w : World) (hs : s.size ≤ 1000000) (h : a + n * 8 ≤ s.size) :
    Calls Try.prog 41 #[.string s, .int .i64 (a : Int), .int .i64 (n : Int), .int .i64 8] w (RetTake (takeL s.data.toList a 8 n) ((a + n * 8 : Nat) : Int) 0 w) := by
  obtain ⟨i0, hi, hz0, hz1, hz2⟩ := info_parts info_u64
  have hsz : (s.extract a (a + n * 8)).size = n * 8 := by rw [ByteArray.size_extract]; omega
  obtain ⟨cp, W1, hcv, hcp, hrd, hb1⟩ := conv_bytes (P := Try.prog) w 9 43 5 (s.extract a (a + n * 8)) (n * 8) hsz (by omega) Try.underlying9 Try.underlying43 Try.underlying5
  clear hsz
  have hd1 : decide ((a : Int) < 0) = false := by simp
  have hd2 : decide ((n : Int) < 0) = false := by simp
  have hd3 : decide (s.size < a) = false := by simp; omega
  have hd4 : decide (((s.size : Int) - (a : Int)) / 8 < (n : Int)) = false := by simp; omega
  go_enter Try.func41, Try.ntmps41
  go_wp2
  go_loopw [8, 12] (fun l i wr => TkRel 8 n (s.extract a (a + n * 8)).data.toList W1 l i wr) (fun _ i _ => n * 8 - (intOf i).toNat)
  case atStart => exact ⟨0, Nat.zero_le _, rfl, World.ownsRow_nil _ _ _ _, Below.refl _ _⟩
  case round =>
    obtain ⟨q, hq, rfl, ho, hb⟩ := hrel
    by_cases hlt : q < n
    · have hrq := (hrd.below hb).part (q * 8) 8 rfl
      have hlq : (((s.extract a (a + n * 8)).data.toList.drop (q * 8)).take 8).length = 8 := by
        simp only [List.length_take, List.length_drop, Array.length_toList]
        have : (s.extract a (a + n * 8)).data.size = n * 8 := by
          show (s.extract a (a + n * 8)).size = _
          rw [ByteArray.size_extract]; omega
        omega
      have hx64 := leV_lt (((s.extract a (a + n * 8)).data.toList.drop (q * 8)).take 8)
      rw [hlq] at hx64
      have hts := takeL_succ (s.extract a (a + n * 8)).data.toList 0 8 q
      rw [Nat.zero_add] at hts
      obtain ⟨P, hP⟩ : ∃ P, P = ((s.extract a (a + n * 8)).data.toList.drop (q * 8)).take 8 := ⟨_, rfl⟩
      rw [← hP] at hrq hlq hx64 hts
      have HT := Lib.hid hts
      have HQ := Lib.hid hlq
      clear hP hts hlq
      have hsz := hb.size
      go_wp2_with fail
      refine (number_any _ P 8 8 _ hrq HQ.out (by omega)).mono ?_
      rintro e w2 ⟨rfl, rfl⟩
      obtain ⟨x, hx⟩ : ∃ x, x = leV P := ⟨_, rfl⟩
      rw [← hx] at hx64 ⊢
      have HX := Lib.hid hx
      clear hx
      go_wp2_with (at_builtin; refine wpList_append_own _ rfl _ _ 22 rfl W1.heap.size 40 i0 (.int .u64 0) 1 8 Try.underlying22 hi hz0 hz1 hz2 rfl (by decide) _ _ _ rfl (ho.alloc _) ⟨wr.heap.size, 0, none⟩ 1 1 [.int .u64 (x : Int)] rfl rfl ?c1 ?c2 ?c3 ?c4 ?c5 ?_)
      case c1 =>
        intro j u hj
        match j, hj with
        | 0, hj => simp at hj; subst hj; simp [Addr.add]
      case c2 => intro u hu; simp at hu; subst hu; rfl
      case c3 => unfold maxLen; omega
      case c4 => omega
      case c5 => simp; omega
      intro v' w3 ho' hg _
      have hb3 : Below W1.heap.size W1 w3 := (hb.alloc (by omega) _).grown hg (by simp; omega) (fun j hj => (ho.lt j hj).1)
      clear ho hg hb hsz
      go_wp2
      go_roundw
      case rel => exact ⟨q + 1, by omega, by congr 1; omega, by rw [show takeL (s.extract a (a + n * 8)).data.toList 0 8 (q + 1) = _ from HT.out, us_append, ← HX.out]; simpa [us] using ho', hb3⟩
      case measure => simp [intOf]; omega
    · obtain rfl : q = n := by omega
      obtain ⟨A1, c1, rfl⟩ := own_form ho
      have hro := Rd.of_own ho
      go_wp2
      go_ret3
      have hT := takeL_part s.data.toList a 8 q
      have hE : (s.extract a (a + q * 8)).data.toList = (s.data.toList.drop a).take (q * 8) := by
        rw [Lib.extract_data, Nat.add_sub_cancel_left]
      rw [hE, hT] at hro
      refine ⟨A1, c1, ?_, hro.1, by rw [takeL_len]; exact hro.2.1, hro.2.2.1, hb1.trans (hb.mono hb1.size)⟩
      rw [takeL_len]
      rfl
set_option maxHeartbeats 400000 in
theorem take4_arg (s : ByteArray) (a n : Int) (w : World) (h : a < 0 ∨ n < 0) :
    Calls Try.prog 41 #[.string s, .int .i64 a, .int .i64 n, .int .i64 4] w (RetTake [] 0 1 w) := by
  rcases h with h | h
  · go_enter Try.func41, Try.ntmps41
    go_wp2
    go_ret3
    exact ⟨none, 0, rfl, Rd.none_ _ _, by simp, by simp [maxLen], Below.refl _ _⟩
  · by_cases h0 : a < 0
    · go_enter Try.func41, Try.ntmps41
      go_wp2
      go_ret3
      exact ⟨none, 0, rfl, Rd.none_ _ _, by simp, by simp [maxLen], Below.refl _ _⟩
    · have h1 : 0 ≤ a := by omega
      clear h0
      go_enter Try.func41, Try.ntmps41
      go_wp2
      go_ret3
      exact ⟨none, 0, rfl, Rd.none_ _ _, by simp, by simp [maxLen], Below.refl _ _⟩

set_option maxHeartbeats 400000 in
theorem take4_short (s : ByteArray) (a n : Int) (w : World) (hs : s.size ≤ 1000000) (h1 : 0 ≤ a) (h2 : 0 ≤ n) (h : (s.size : Int) < a ∨ ((s.size : Int) - a) / 4 < n) (ha : a ≤ 9223372036854775807) (hn : n ≤ 9223372036854775807) :
    Calls Try.prog 41 #[.string s, .int .i64 a, .int .i64 n, .int .i64 4] w (RetTake [] 0 2 w) := by
  by_cases h0 : (s.size : Int) < a
  · clear h
    go_enter Try.func41, Try.ntmps41
    go_wp2
    go_ret3
    exact ⟨none, 0, rfl, Rd.none_ _ _, by simp, by simp [maxLen], Below.refl _ _⟩
  · have h3 : a ≤ (s.size : Int) := by omega
    have h4 : ((s.size : Int) - a) / 4 < n := by omega
    clear h h0
    go_enter Try.func41, Try.ntmps41
    go_wp2
    go_ret3
    exact ⟨none, 0, rfl, Rd.none_ _ _, by simp, by simp [maxLen], Below.refl _ _⟩

set_option maxHeartbeats 400000 in
theorem take4_ok (s : ByteArray) (a n : Nat) (w : World) (hs : s.size ≤ 1000000) (h : a + n * 4 ≤ s.size) :
    Calls Try.prog 41 #[.string s, .int .i64 (a : Int), .int .i64 (n : Int), .int .i64 4] w (RetTake (takeL s.data.toList a 4 n) ((a + n * 4 : Nat) : Int) 0 w) := by
  obtain ⟨i0, hi, hz0, hz1, hz2⟩ := info_parts info_u64
  have hsz : (s.extract a (a + n * 4)).size = n * 4 := by rw [ByteArray.size_extract]; omega
  obtain ⟨cp, W1, hcv, hcp, hrd, hb1⟩ := conv_bytes (P := Try.prog) w 9 43 5 (s.extract a (a + n * 4)) (n * 4) hsz (by omega) Try.underlying9 Try.underlying43 Try.underlying5
  clear hsz
  have hd1 : decide ((a : Int) < 0) = false := by simp
  have hd2 : decide ((n : Int) < 0) = false := by simp
  have hd3 : decide (s.size < a) = false := by simp; omega
  have hd4 : decide (((s.size : Int) - (a : Int)) / 4 < (n : Int)) = false := by simp; omega
  go_enter Try.func41, Try.ntmps41
  go_wp2
  go_loopw [8, 12] (fun l i wr => TkRel 4 n (s.extract a (a + n * 4)).data.toList W1 l i wr) (fun _ i _ => n * 4 - (intOf i).toNat)
  case atStart => exact ⟨0, Nat.zero_le _, rfl, World.ownsRow_nil _ _ _ _, Below.refl _ _⟩
  case round =>
    obtain ⟨q, hq, rfl, ho, hb⟩ := hrel
    by_cases hlt : q < n
    · have hrq := (hrd.below hb).part (q * 4) 4 rfl
      have hlq : (((s.extract a (a + n * 4)).data.toList.drop (q * 4)).take 4).length = 4 := by
        simp only [List.length_take, List.length_drop, Array.length_toList]
        have : (s.extract a (a + n * 4)).data.size = n * 4 := by
          show (s.extract a (a + n * 4)).size = _
          rw [ByteArray.size_extract]; omega
        omega
      have hx64 := leV_lt (((s.extract a (a + n * 4)).data.toList.drop (q * 4)).take 4)
      rw [hlq] at hx64
      have hts := takeL_succ (s.extract a (a + n * 4)).data.toList 0 4 q
      rw [Nat.zero_add] at hts
      obtain ⟨P, hP⟩ : ∃ P, P = ((s.extract a (a + n * 4)).data.toList.drop (q * 4)).take 4 := ⟨_, rfl⟩
      rw [← hP] at hrq hlq hx64 hts
      have HT := Lib.hid hts
      have HQ := Lib.hid hlq
      clear hP hts hlq
      have hsz := hb.size
      go_wp2_with fail
      refine (number_any _ P 4 4 _ hrq HQ.out (by omega)).mono ?_
      rintro e w2 ⟨rfl, rfl⟩
      obtain ⟨x, hx⟩ : ∃ x, x = leV P := ⟨_, rfl⟩
      rw [← hx] at hx64 ⊢
      have HX := Lib.hid hx
      clear hx
      go_wp2_with (at_builtin; refine wpList_append_own _ rfl _ _ 22 rfl W1.heap.size 40 i0 (.int .u64 0) 1 8 Try.underlying22 hi hz0 hz1 hz2 rfl (by decide) _ _ _ rfl (ho.alloc _) ⟨wr.heap.size, 0, none⟩ 1 1 [.int .u64 (x : Int)] rfl rfl ?c1 ?c2 ?c3 ?c4 ?c5 ?_)
      case c1 =>
        intro j u hj
        match j, hj with
        | 0, hj => simp at hj; subst hj; simp [Addr.add]
      case c2 => intro u hu; simp at hu; subst hu; rfl
      case c3 => unfold maxLen; omega
      case c4 => omega
      case c5 => simp; omega
      intro v' w3 ho' hg _
      have hb3 : Below W1.heap.size W1 w3 := (hb.alloc (by omega) _).grown hg (by simp; omega) (fun j hj => (ho.lt j hj).1)
      clear ho hg hb hsz
      go_wp2
      go_roundw
      case rel => exact ⟨q + 1, by omega, by congr 1; omega, by rw [show takeL (s.extract a (a + n * 4)).data.toList 0 4 (q + 1) = _ from HT.out, us_append, ← HX.out]; simpa [us] using ho', hb3⟩
      case measure => simp [intOf]; omega
    · obtain rfl : q = n := by omega
      obtain ⟨A1, c1, rfl⟩ := own_form ho
      have hro := Rd.of_own ho
      go_wp2
      go_ret3
      have hT := takeL_part s.data.toList a 4 q
      have hE : (s.extract a (a + q * 4)).data.toList = (s.data.toList.drop a).take (q * 4) := by
        rw [Lib.extract_data, Nat.add_sub_cancel_left]
      rw [hE, hT] at hro
      refine ⟨A1, c1, ?_, hro.1, by rw [takeL_len]; exact hro.2.1, hro.2.2.1, hb1.trans (hb.mono hb1.size)⟩
      rw [takeL_len]
      rfl

/-! ### in one -/
def tkL (s : ByteArray) (a n : Int) (k : Nat) : List Nat := if takeE s.size a n k = 0 then takeL s.data.toList a.toNat k n.toNat else []
def tkN (s : ByteArray) (a n : Int) (k : Nat) : Int := if takeE s.size a n k = 0 then a + n * k else 0

theorem takeE_arg {m : Nat} {a n : Int} {k : Nat} (h : a < 0 ∨ n < 0) : takeE m a n k = 1 := by unfold takeE; rw [if_pos h]
theorem takeE_short {m : Nat} {a n : Int} {k : Nat} (h1 : ¬ (a < 0 ∨ n < 0)) (h : (m : Int) < a ∨ ((m : Int) - a) / k < n) : takeE m a n k = 2 := by unfold takeE; rw [if_neg h1, if_pos h]
theorem takeE_ok {m : Nat} {a n : Int} {k : Nat} (h1 : ¬ (a < 0 ∨ n < 0)) (h : ¬ ((m : Int) < a ∨ ((m : Int) - a) / k < n)) : takeE m a n k = 0 := by unfold takeE; rw [if_neg h1, if_neg h]

theorem takeK_any (K : Nat) (hK : K = 8 ∨ K = 4) (s : ByteArray) (a n : Int) (w : World) (hs : s.size ≤ 1000000) (ha : a ≤ 9223372036854775807) (hn : n ≤ 9223372036854775807) :
    Calls Try.prog 41 #[.string s, .int .i64 a, .int .i64 n, .int .i64 (K : Int)] w (RetTake (tkL s a n K) (tkN s a n K) (takeE s.size a n K : Nat) w) := by
  by_cases h1 : a < 0 ∨ n < 0
  · rw [tkL, tkN, takeE_arg h1]
    rcases hK with rfl | rfl
    · exact take8_arg s a n w h1
    · exact take4_arg s a n w h1
  · by_cases h2 : (s.size : Int) < a ∨ ((s.size : Int) - a) / (K : Int) < n
    · rw [tkL, tkN, takeE_short h1 h2]
      rcases hK with rfl | rfl
      · exact take8_short s a n w hs (by omega) (by omega) h2 ha hn
      · exact take4_short s a n w hs (by omega) (by omega) h2 ha hn
    · rw [tkL, tkN, takeE_ok h1 h2]
      obtain ⟨a', rfl⟩ := Int.eq_ofNat_of_zero_le (show 0 ≤ a by omega)
      obtain ⟨n', rfl⟩ := Int.eq_ofNat_of_zero_le (show 0 ≤ n by omega)
      rcases hK with rfl | rfl
      · have := take8_ok s a' n' w hs (by omega)
        simpa using this
      · have := take4_ok s a' n' w hs (by omega)
        simpa using this

set_option maxHeartbeats 400000 in
theorem take_any (s : ByteArray) (a n : Int) (w : World) (hs : s.size ≤ 1000000) (ha : a ≤ 9223372036854775807) (hn : n ≤ 9223372036854775807) :
    Calls Try.prog 23 #[.string s, .int .i64 a, .int .i64 n] w (RetTake (tkL s a n 8) (tkN s a n 8) (takeE s.size a n 8 : Nat) w) := by
  have h := fun W => takeK_any 8 (.inl rfl) s a n W hs ha hn
  have H := Lib.hid h
  clear h
  go_enter Try.func23, Try.ntmps23
  go_wp2_with fail
  refine (H.out _).mono ?_
  rintro e w1 ⟨A, c, rfl, hr, hc, hm, hb⟩
  go_wp2
  go_ret3
  exact ⟨A, c, rfl, hr, hc, hm, hb⟩

/-- A half that is taken, the place behind it, the error. -/
def thV (s : ByteArray) (a : Int) : Nat := if takeE s.size a 1 4 = 0 then leV ((s.data.toList.drop a.toNat).take 4) else 0
theorem tkL_half {s : ByteArray} {a : Int} (h : takeE s.size a 1 4 = 0) : tkL s a 1 4 = [thV s a] := by
  rw [tkL, thV, if_pos h, if_pos h]
  simp [takeL]
theorem tkL_none {s : ByteArray} {a n : Int} {k : Nat} (h : ¬ takeE s.size a n k = 0) : tkL s a n k = [] := by rw [tkL, if_neg h]
theorem thV_lt (s : ByteArray) (a : Int) : thV s a < 4294967296 := by
  unfold thV
  split
  · have := leV_lt ((s.data.toList.drop a.toNat).take 4)
    have h2 : 256 ^ ((s.data.toList.drop a.toNat).take 4).length ≤ 256 ^ 4 := Nat.pow_le_pow_right (by decide) (by simp; omega)
    omega
  · decide
/-- A number of 32 bits and two numbers are handed back; below the heap's size nothing has turned. -/
def RetHalf (v : Nat) (next err : Int) (w : World) (en : Ending) (w' : World) : Prop :=
  en = .returned (.tuple #[.int .u32 (v : Int), .int .i64 next, .int .i64 err]) ∧ Below w.heap.size w w'

set_option maxHeartbeats 400000 in
theorem takehalf_any (s : ByteArray) (a : Int) (w : World) (hs : s.size ≤ 1000000) (ha : a ≤ 9223372036854775807) :
    Calls Try.prog 21 #[.string s, .int .i64 a] w (RetHalf (thV s a) (tkN s a 1 4) (takeE s.size a 1 4 : Nat) w) := by
  have h := fun W => takeK_any 4 (.inr rfl) s a 1 W hs ha (by omega)
  have hv := thV_lt s a
  by_cases h0 : takeE s.size a 1 4 = 0
  · rw [tkL_half h0, h0] at h
    rw [h0]
    obtain ⟨v, hV⟩ : ∃ v, v = thV s a := ⟨_, rfl⟩
    rw [← hV] at hv h ⊢
    clear hV h0
    have H := Lib.hid h
    clear h
    go_enter Try.func21, Try.ntmps21
    go_wp2_with fail
    refine (H.out _).mono ?_
    rintro e w1 ⟨A, c, rfl, hr, hc, hm, hb⟩
    obtain ⟨b, off, rfl, _, hcell⟩ := hr.us_at (k := 0) (by simp)
    rw [Nat.add_zero] at hcell
    go_wp2
    go_ret3
    exact ⟨rfl, hb⟩
  · rw [tkL_none h0] at h
    have h1 : thV s a = 0 := by rw [thV, if_neg h0]
    rw [h1]
    have h2 : tkN s a 1 4 = 0 := by rw [tkN, if_neg h0]
    rw [h2] at h ⊢
    obtain ⟨er, hE⟩ : ∃ er, er = takeE s.size a 1 4 := ⟨_, rfl⟩
    rw [← hE] at h h0 ⊢
    have hne : ((er : Int) != 0) = true := by simp; omega
    clear hE h1 h2
    have H := Lib.hid h
    clear h h0
    go_enter Try.func21, Try.ntmps21
    go_wp2_with fail
    refine (H.out _).mono ?_
    rintro e w1 ⟨A, c, rfl, hr, hc, hm, hb⟩
    go_wp2
    go_ret3
    exact ⟨rfl, hb⟩
end Go.Proofs.Ytdnngacamdohiaa
