/-
  The walks of the reference's Take and TakeHalf. Conditions: a text that is not great, as typed.
-/
import Derived.Test.YtdnngacamdohiaaWordsD
namespace Go.Proofs.Ytdnngacamdohiaa
open Go.RowKit

theorem part_val (s : ByteArray) (i k : Nat) : (s.extract i (i + k)).data.toList = (s.data.toList.drop i).take k := by
  rw [Lib.extract_data, Nat.add_sub_cancel_left]

set_option maxHeartbeats 400000 in
theorem reftake_arg (s : ByteArray) (a n : Int) (w : World) (h : a < 0 ∨ n < 0) :
    Calls Try.prog 24 #[.string s, .int .i64 a, .int .i64 n] w (RetTake [] 0 1 w) := by
  rcases h with h | h
  · go_enter Try.func24, Try.ntmps24
    go_wp2
    go_ret3
    exact ⟨none, 0, rfl, Rd.none_ _ _, by simp, by simp [maxLen], Below.refl _ _⟩
  · by_cases h0 : a < 0
    · go_enter Try.func24, Try.ntmps24
      go_wp2
      go_ret3
      exact ⟨none, 0, rfl, Rd.none_ _ _, by simp, by simp [maxLen], Below.refl _ _⟩
    · have h1 : 0 ≤ a := by omega
      clear h0
      go_enter Try.func24, Try.ntmps24
      go_wp2
      go_ret3
      exact ⟨none, 0, rfl, Rd.none_ _ _, by simp, by simp [maxLen], Below.refl _ _⟩

set_option maxHeartbeats 400000 in
theorem reftake_short (s : ByteArray) (a n : Int) (w : World) (hs : s.size ≤ 1000000) (h1 : 0 ≤ a) (h2 : 0 ≤ n) (h : (s.size : Int) < a ∨ ((s.size : Int) - a) / 8 < n) (ha : a ≤ 9223372036854775807) (hn : n ≤ 9223372036854775807) :
    Calls Try.prog 24 #[.string s, .int .i64 a, .int .i64 n] w (RetTake [] 0 2 w) := by
  by_cases h0 : (s.size : Int) < a
  · clear h
    go_enter Try.func24, Try.ntmps24
    go_wp2
    go_ret3
    exact ⟨none, 0, rfl, Rd.none_ _ _, by simp, by simp [maxLen], Below.refl _ _⟩
  · have h3 : a ≤ (s.size : Int) := by omega
    have h4 : ((s.size : Int) - a) / 8 < n := by omega
    clear h h0
    go_enter Try.func24, Try.ntmps24
    go_wp2
    go_ret3
    exact ⟨none, 0, rfl, Rd.none_ _ _, by simp, by simp [maxLen], Below.refl _ _⟩

def RTkRel (n : Nat) (s : List UInt8) (a : Nat) (W : World) (l i : Value) (wr : World) : Prop :=
  ∃ q, q ≤ n ∧ i = .int .i64 (q : Int) ∧ wr.ownsRow W.heap.size 40 1 l q (us (takeL s a 8 q)) ∧ Below W.heap.size W wr

set_option maxHeartbeats 400000 in
theorem reftake_ok (s : ByteArray) (a n : Nat) (w : World) (hs : s.size ≤ 1000000) (h : a + n * 8 ≤ s.size) :
    Calls Try.prog 24 #[.string s, .int .i64 (a : Int), .int .i64 (n : Int)] w (RetTake (takeL s.data.toList a 8 n) ((a + n * 8 : Nat) : Int) 0 w) := by
  obtain ⟨i0, hi, hz0, hz1, hz2⟩ := info_parts info_u64
  have hd1 : decide ((a : Int) < 0) = false := by simp
  have hd2 : decide ((n : Int) < 0) = false := by simp
  have hd3 : decide (s.size < a) = false := by simp; omega
  have hd4 : decide (((s.size : Int) - (a : Int)) / 8 < (n : Int)) = false := by simp; omega
  go_enter Try.func24, Try.ntmps24
  go_wp2
  go_loopw [9, 10] (fun l i wr => RTkRel n s.data.toList a w l i wr) (fun _ i _ => n - (intOf i).toNat)
  case atStart => exact ⟨0, Nat.zero_le _, rfl, World.ownsRow_nil _ _ _ _, Below.refl _ _⟩
  case round =>
    obtain ⟨q, hq, rfl, ho, hb⟩ := hrel
    by_cases hlt : q < n
    · have hsz := hb.size
      go_wp2_with fail
      refine (refvalue_any _ _ (by rw [ByteArray.size_extract]; omega)).mono ?_
      rintro e w2 ⟨rfl, rfl⟩
      have hpv := part_val s (a + 8 * q) 8
      rw [hpv]
      obtain ⟨x, hx⟩ : ∃ x, x = leV ((s.data.toList.drop (a + 8 * q)).take 8) := ⟨_, rfl⟩
      rw [← hx]
      have HX := Lib.hid hx
      clear hx hpv
      go_wp2_with (at_builtin; refine wpList_append_own _ rfl _ _ 22 rfl w.heap.size 40 i0 (.int .u64 0) 1 8 Try.underlying22 hi hz0 hz1 hz2 rfl (by decide) _ _ _ rfl (ho.alloc _) ⟨wr.heap.size, 0, none⟩ 1 1 [.int .u64 (x : Int)] rfl rfl ?c1 ?c2 ?c3 ?c4 ?c5 ?_)
      case c1 =>
        intro j u hj
        match j, hj with
        | 0, hj => simp at hj; subst hj; simp [Addr.add]
      case c2 => intro u hu; simp at hu; subst hu; rfl
      case c3 => unfold maxLen; omega
      case c4 => omega
      case c5 => simp; omega
      intro v' w3 ho' hg _
      have hb3 : Below w.heap.size w w3 := (hb.alloc (by omega) _).grown hg (by simp; omega) (fun j hj => (ho.lt j hj).1)
      clear ho hg hb hsz
      go_wp2
      go_roundw
      case rel => exact ⟨q + 1, hlt, by go_num, by rw [takeL_succ, us_append, Nat.mul_comm q 8, ← HX.out]; simpa [us] using ho', hb3⟩
      case measure => simp [intOf]; omega
    · obtain rfl : q = n := by omega
      obtain ⟨A1, c1, rfl⟩ := own_form ho
      have hro := Rd.of_own ho
      go_wp2
      go_ret3
      refine ⟨A1, c1, ?_, hro.1, by rw [takeL_len]; exact hro.2.1, hro.2.2.1, hb⟩
      rw [takeL_len]
      rw [show ((a + q * 8 : Nat) : Int) = (a : Int) + 8 * (q : Int) by omega]
      rfl

theorem reftake_any (s : ByteArray) (a n : Int) (w : World) (hs : s.size ≤ 1000000) (ha : a ≤ 9223372036854775807) (hn : n ≤ 9223372036854775807) :
    Calls Try.prog 24 #[.string s, .int .i64 a, .int .i64 n] w (RetTake (tkL s a n 8) (tkN s a n 8) (takeE s.size a n 8 : Nat) w) := by
  by_cases h1 : a < 0 ∨ n < 0
  · rw [tkL, tkN, takeE_arg h1]
    exact reftake_arg s a n w h1
  · by_cases h2 : (s.size : Int) < a ∨ ((s.size : Int) - a) / ((8 : Nat) : Int) < n
    · rw [tkL, tkN, takeE_short h1 h2]
      exact reftake_short s a n w hs (by omega) (by omega) h2 ha hn
    · rw [tkL, tkN, takeE_ok h1 h2]
      obtain ⟨a', rfl⟩ := Int.eq_ofNat_of_zero_le (show 0 ≤ a by omega)
      obtain ⟨n', rfl⟩ := Int.eq_ofNat_of_zero_le (show 0 ≤ n by omega)
      have := reftake_ok s a' n' w hs (by omega)
      simpa using this

set_option maxHeartbeats 400000 in
theorem reftakehalf_any (s : ByteArray) (a : Int) (w : World) (hs : s.size ≤ 1000000) (ha : a ≤ 9223372036854775807) :
    Calls Try.prog 22 #[.string s, .int .i64 a] w (RetHalf (thV s a) (tkN s a 1 4) (takeE s.size a 1 4 : Nat) w) := by
  by_cases h1 : a < 0
  · have hE : takeE s.size a 1 4 = 1 := takeE_arg (.inl h1)
    have hV : thV s a = 0 := by rw [thV, hE]; rfl
    have hN : tkN s a 1 4 = 0 := by rw [tkN, hE]; rfl
    rw [hE, hV, hN]
    clear hE hV hN
    go_enter Try.func22, Try.ntmps22
    go_wp2
    go_ret3
    exact ⟨rfl, Below.refl _ _⟩
  · by_cases h2 : (s.size : Int) - 4 < a
    · have hE : takeE s.size a 1 4 = 2 := takeE_short (by omega) (by omega)
      have hV : thV s a = 0 := by rw [thV, hE]; rfl
      have hN : tkN s a 1 4 = 0 := by rw [tkN, hE]; rfl
      rw [hE, hV, hN]
      clear hE hV hN
      go_enter Try.func22, Try.ntmps22
      go_wp2
      go_ret3
      exact ⟨rfl, Below.refl _ _⟩
    · have hE : takeE s.size a 1 4 = 0 := takeE_ok (by omega) (by omega)
      have hlt := thV_lt s a
      have hV : thV s a = leV ((s.data.toList.drop a.toNat).take 4) := by rw [thV, hE]; rfl
      have hN : tkN s a 1 4 = a + 4 := by rw [tkN, hE]; rfl
      rw [hV] at hlt
      rw [hE, hV, hN]
      clear hE hV hN
      obtain ⟨b, rfl⟩ := Int.eq_ofNat_of_zero_le (show 0 ≤ a by omega)
      have hd : b + 4 ≤ s.size := by omega
      clear h1 h2
      rw [Int.toNat_natCast] at *
      go_enter Try.func22, Try.ntmps22
      go_wp2_with fail
      refine (refvalue_any _ _ (by rw [ByteArray.size_extract]; omega)).mono ?_
      rintro e w2 ⟨rfl, rfl⟩
      have hpv := part_val s b 4
      rw [hpv]
      obtain ⟨x, hx⟩ : ∃ x, x = leV ((s.data.toList.drop b).take 4) := ⟨_, rfl⟩
      rw [← hx] at hlt ⊢
      have HX := Lib.hid hx
      clear hx hpv
      go_wp2
      go_ret3
      refine ⟨?_, Below.refl _ _⟩
      rw [← HX.out]
      rfl
end Go.Proofs.Ytdnngacamdohiaa
