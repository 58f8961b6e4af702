/-
  The walks of TakeRow, of the program and of the reference. Conditions: a text that is not great, as typed.
-/
import Derived.Test.YtdnngacamdohiaaVarD
import Derived.Test.YtdnngacamdohiaaWordsD
namespace Go.Proofs.Ytdnngacamdohiaa
open Go.RowKit

/-- A row of numbers that is taken: the error, the numbers, the place behind. -/
def tr (l : List UInt8) : Nat → List Nat → Int → Nat × List Nat × Int
  | 0, acc, x => (0, acc, x)
  | m + 1, acc, x => if (tk l x).1 = 0 then tr l m (acc ++ [(tk l x).2.1]) (x + ((tk l x).2.2 : Int)) else ((tk l x).1, [], 0)
def trow (l : List UInt8) (x n : Int) : Nat × List Nat × Int := if x < 0 ∨ n < 0 then (1, [], 0) else tr l n.toNat [] x

/-- What is taken stands in the text, and is a number of 64 bits. -/
theorem va_in (l : List UInt8) : ∀ n acc, n ≤ 9 → acc < 128 ^ n → (va n acc l).1 = 0 → n + 1 ≤ (va n acc l).2.2 ∧ (va n acc l).2.2 ≤ l.length + n ∧ (va n acc l).2.1 < 18446744073709551616 := by
  induction l with
  | nil => intro n acc _ _ h; simp [va] at h
  | cons b r ih =>
    intro n acc hn ha h
    have hb := b.toNat_lt
    by_cases hf : n = 9 ∧ 2 ≤ b.toNat ∨ 0 < n ∧ b.toNat = 0
    · rw [va_form hf] at h; simp at h
    · by_cases h128 : b.toNat < 128
      · rw [va_last hf h128]
        refine ⟨Nat.le_refl _, by simp only [List.length_cons]; omega, ?_⟩
        have h1 := dig_le n b.toNat hn h128 (fun h9 => by omega)
        have h2 := pow_le9 n hn
        show acc + b.toNat * 128 ^ n < _
        omega
      · have hn8 : n ≤ 8 := by omega
        rw [va_next hf (by omega)] at h ⊢
        have ha2 : acc + (b.toNat - 128) * 128 ^ n < 128 ^ (n + 1) := by
          have : (b.toNat - 128) * 128 ^ n ≤ 127 * 128 ^ n := Nat.mul_le_mul_right _ (by omega)
          rw [Nat.pow_succ]; omega
        have := ih (n + 1) _ (by omega) ha2 h
        simp only [List.length_cons]
        omega
theorem tk_in {l : List UInt8} {x : Int} (h : (tk l x).1 = 0) : 0 ≤ x ∧ 1 ≤ (tk l x).2.2 ∧ x + ((tk l x).2.2 : Int) ≤ l.length ∧ (tk l x).2.1 < 18446744073709551616 := by
  unfold tk at h ⊢
  by_cases h0 : x < 0
  · rw [if_pos h0] at h; simp at h
  · rw [if_neg h0] at h ⊢
    have := va_in (l.drop x.toNat) 0 0 (by omega) (by decide) h
    rw [List.length_drop] at this
    omega
theorem va_err (l : List UInt8) : ∀ n acc, (va n acc l).1 ≤ 3 := by
  induction l with
  | nil => intro n acc; simp [va]
  | cons b r ih => intro n acc; rw [va]; split
                   · simp
                   · split
                     · simp
                     · exact ih _ _
theorem tk_err (l : List UInt8) (x : Int) : (tk l x).1 ≤ 3 := by
  unfold tk; split
  · simp
  · exact va_err _ _ _

set_option maxHeartbeats 400000 in
theorem takerow_arg (s : ByteArray) (a n : Int) (w : World) (h : a < 0 ∨ n < 0) :
    Calls Try.prog 36 #[.string s, .int .i64 a, .int .i64 n] w (RetTake [] 0 1 w) := by
  rcases h with h | h
  · go_enter Try.func36, Try.ntmps36
    go_wp2
    go_ret3
    exact ⟨none, 0, rfl, Rd.none_ _ _, by simp, by simp [maxLen], Below.refl _ _⟩
  · by_cases h0 : a < 0
    · go_enter Try.func36, Try.ntmps36
      go_wp2
      go_ret3
      exact ⟨none, 0, rfl, Rd.none_ _ _, by simp, by simp [maxLen], Below.refl _ _⟩
    · have h1 : 0 ≤ a := by omega
      clear h0
      go_enter Try.func36, Try.ntmps36
      go_wp2
      go_ret3
      exact ⟨none, 0, rfl, Rd.none_ _ _, by simp, by simp [maxLen], Below.refl _ _⟩
set_option maxHeartbeats 400000 in
theorem rtakerow_arg (s : ByteArray) (a n : Int) (w : World) (h : a < 0 ∨ n < 0) :
    Calls Try.prog 37 #[.string s, .int .i64 a, .int .i64 n] w (RetTake [] 0 1 w) := by
  rcases h with h | h
  · go_enter Try.func37, Try.ntmps37
    go_wp2
    go_ret3
    exact ⟨none, 0, rfl, Rd.none_ _ _, by simp, by simp [maxLen], Below.refl _ _⟩
  · by_cases h0 : a < 0
    · go_enter Try.func37, Try.ntmps37
      go_wp2
      go_ret3
      exact ⟨none, 0, rfl, Rd.none_ _ _, by simp, by simp [maxLen], Below.refl _ _⟩
    · have h1 : 0 ≤ a := by omega
      clear h0
      go_enter Try.func37, Try.ntmps37
      go_wp2
      go_ret3
      exact ⟨none, 0, rfl, Rd.none_ _ _, by simp, by simp [maxLen], Below.refl _ _⟩

def TrRel (l : List UInt8) (n : Nat) (R : Nat × List Nat × Int) (W : World) (vl vx vi : Value) (wr : World) : Prop :=
  ∃ (L : List Nat) (x : Int), vi = .int .i64 (L.length : Int) ∧ vx = .int .i64 x ∧ L.length ≤ n ∧ 0 ≤ x ∧ (L = [] ∨ ((L.length : Int) ≤ x ∧ x ≤ (l.length : Int))) ∧ tr l (n - L.length) L x = R ∧ wr.ownsRow W.heap.size 40 1 vl L.length (us L) ∧ Below W.heap.size W wr

theorem tr_done {l : List UInt8} {n : Nat} {L : List Nat} {x : Int} {R : Nat × List Nat × Int} (h : tr l (n - L.length) L x = R) (hn : n ≤ L.length) : R = (0, L, x) := by
  rw [show n - L.length = 0 by omega] at h; exact h.symm
theorem tr_bad {l : List UInt8} {n : Nat} {L : List Nat} {x : Int} {R : Nat × List Nat × Int} {e v u : Nat} (h : tr l (n - L.length) L x = R) (hn : L.length < n) (ht : tk l x = (e, v, u)) (he : e ≠ 0) : R = (e, [], 0) := by
  rw [show n - L.length = (n - L.length - 1) + 1 by omega, tr, ht, if_neg he] at h; exact h.symm
theorem tr_good {l : List UInt8} {n : Nat} {L : List Nat} {x : Int} {R : Nat × List Nat × Int} {v u : Nat} (h : tr l (n - L.length) L x = R) (hn : L.length < n) (ht : tk l x = (0, v, u)) : tr l (n - (L ++ [v]).length) (L ++ [v]) (x + (u : Int)) = R := by
  rw [show n - L.length = (n - L.length - 1) + 1 by omega, tr, ht, if_pos rfl] at h
  rw [List.length_append, show n - (L.length + [v].length) = n - L.length - 1 by simp; omega]; exact h
theorem us_one (v : Nat) : us [v] = [.int .u64 (v : Int)] := rfl

set_option maxHeartbeats 1000000 in
theorem takerow_ok (s : ByteArray) (a : Int) (n : Nat) (w : World) (hs : s.size ≤ 1000000) (h : 0 ≤ a) (hn : n ≤ 9223372036854775807) :
    Calls Try.prog 36 #[.string s, .int .i64 a, .int .i64 (n : Int)] w (RetTake (tr s.data.toList n [] a).2.1 (tr s.data.toList n [] a).2.2 ((tr s.data.toList n [] a).1 : Int) w) := by
  obtain ⟨i0, hi, hz0, hz1, hz2⟩ := info_parts info_u64
  obtain ⟨R, hR⟩ : ∃ R, R = tr s.data.toList n [] a := ⟨_, rfl⟩
  rw [← hR]
  have HR := Lib.hid hR
  clear hR
  have hd1 : decide (a < 0) = false := by simp [h]
  have hd2 : decide ((n : Int) < 0) = false := by simp
  go_enter Try.func36, Try.ntmps36
  go_wp2
  go_loopw [6, 7, 20] (fun l x i wr => TrRel s.data.toList n R w l x i wr) (fun _ _ i _ => n - (intOf i).toNat)
  case atStart => exact ⟨[], a, rfl, rfl, Nat.zero_le _, h, Or.inl rfl, HR.out.symm, World.ownsRow_nil _ _ _ _, Below.refl _ _⟩
  case round =>
    obtain ⟨L, x, rfl, rfl, hLn, hx0, hLx, htr, ho, hb⟩ := hrel
    have HTR := Lib.hid htr
    have HLX := Lib.hid hLx
    have hLs : L.length ≤ 1000000 := by
      rcases hLx with h1 | h1
      · rw [h1]; simp
      · have h2 : s.data.toList.length = s.size := by simp
        omega
    clear htr hLx
    have hsz := hb.size
    by_cases hlt : L.length < n
    · have hcall := fun W => vtake_any s x W hs
      rcases htk : tk s.data.toList x with ⟨e, v, u⟩
      rw [htk] at hcall
      have HTK := Lib.hid htk
      clear htk
      by_cases he : e = 0
      · subst he
        have hcall2 : ∀ W, Calls Try.prog 34 #[.string s, .int .i64 x] W (fun en w' => en = .returned (.tuple #[.int .u64 (v : Int), .int .i64 (x + (u : Int)), .int .i64 0]) ∧ W = w') := hcall
        clear hcall
        go_wp2_with fail
        refine (hcall2 _).mono ?_
        rintro e w2 ⟨rfl, rfl⟩
        go_wp2_with (at_builtin; refine wpList_append_own _ rfl _ _ 22 rfl w.heap.size 40 i0 (.int .u64 0) 1 8 Try.underlying22 hi hz0 hz1 hz2 rfl (by decide) _ _ _ rfl (ho.alloc _) ⟨wr.heap.size, 0, none⟩ 1 1 [.int .u64 (v : Int)] rfl rfl ?c1 ?c2 ?c3 ?c4 ?c5 ?_)
        case c1 =>
          intro j u hj
          match j, hj with
          | 0, hj => simp at hj; subst hj; simp [Addr.add]
        case c2 => intro u hu; simp at hu; subst hu; rfl
        case c3 => unfold maxLen; omega
        case c4 => omega
        case c5 => simp; omega
        intro v' w3 ho' hg _
        have hb3 : Below w.heap.size w w3 := (hb.alloc (by omega) _).grown hg (by simp; omega) (fun j hj => (ho.lt j hj).1)
        clear ho hg hb hsz
        go_wp2
        go_roundw
        case rel =>
          have hin := tk_in (l := s.data.toList) (x := x) (by rw [HTK.out])
          rw [HTK.out] at hin
          have hu : 1 ≤ u := hin.2.1
          refine ⟨L ++ [v], x + (u : Int), by simp, rfl, by simp; omega, by omega, Or.inr ⟨?_, hin.2.2.1⟩, tr_good HTR.out hlt HTK.out, ?_, hb3⟩
          · rcases HLX.out with h1 | h1
            · rw [h1]; simp; omega
            · simp; omega
          · rw [us_append, us_one, List.length_append]; exact ho'
        case measure => simp [intOf]; omega
      · have hcall2 : ∀ W, Calls Try.prog 34 #[.string s, .int .i64 x] W (fun en w' => en = .returned (.tuple #[.int .u64 (v : Int), .int .i64 0, .int .i64 (e : Int)]) ∧ W = w') := by
          intro W
          refine (hcall W).mono ?_
          rintro en w' ⟨rfl, rfl⟩
          exact ⟨by rw [if_neg he], rfl⟩
        clear hcall
        have hee : ((e : Int) != 0) = true := by simp [he]
        have hee2 : ((e : Int) == 0) = false := by simp [he]
        have hRb := tr_bad HTR.out hlt HTK.out he
        subst hRb
        go_wp2_with fail
        refine (hcall2 _).mono ?_
        rintro e w2 ⟨rfl, rfl⟩
        go_wp2
        go_ret3
        exact ⟨none, 0, rfl, Rd.none_ _ _, by simp, by simp [maxLen], hb⟩
    · have hRd := tr_done HTR.out (by omega)
      obtain ⟨A1, c1, rfl⟩ := own_form ho
      have hro := Rd.of_own ho
      subst hRd
      go_wp2
      go_ret3
      exact ⟨A1, c1, rfl, hro.1, hro.2.1, hro.2.2.1, hb⟩
set_option maxHeartbeats 1000000 in
theorem rtakerow_ok (s : ByteArray) (a : Int) (n : Nat) (w : World) (hs : s.size ≤ 1000000) (h : 0 ≤ a) (hn : n ≤ 9223372036854775807) :
    Calls Try.prog 37 #[.string s, .int .i64 a, .int .i64 (n : Int)] w (RetTake (tr s.data.toList n [] a).2.1 (tr s.data.toList n [] a).2.2 ((tr s.data.toList n [] a).1 : Int) w) := by
  obtain ⟨i0, hi, hz0, hz1, hz2⟩ := info_parts info_u64
  obtain ⟨R, hR⟩ : ∃ R, R = tr s.data.toList n [] a := ⟨_, rfl⟩
  rw [← hR]
  have HR := Lib.hid hR
  clear hR
  have hd1 : decide (a < 0) = false := by simp [h]
  have hd2 : decide ((n : Int) < 0) = false := by simp
  go_enter Try.func37, Try.ntmps37
  go_wp2
  go_loopw [9, 10, 11] (fun l x i wr => TrRel s.data.toList n R w l x i wr) (fun _ _ i _ => n - (intOf i).toNat)
  case atStart => exact ⟨[], a, rfl, rfl, Nat.zero_le _, h, Or.inl rfl, HR.out.symm, World.ownsRow_nil _ _ _ _, Below.refl _ _⟩
  case round =>
    obtain ⟨L, x, rfl, rfl, hLn, hx0, hLx, htr, ho, hb⟩ := hrel
    have HTR := Lib.hid htr
    have HLX := Lib.hid hLx
    have hLs : L.length ≤ 1000000 := by
      rcases hLx with h1 | h1
      · rw [h1]; simp
      · have h2 : s.data.toList.length = s.size := by simp
        omega
    clear htr hLx
    have hsz := hb.size
    by_cases hlt : L.length < n
    · have hcall := fun W => rvtake_any s x W hs
      rcases htk : tk s.data.toList x with ⟨e, v, u⟩
      rw [htk] at hcall
      have HTK := Lib.hid htk
      clear htk
      by_cases he : e = 0
      · subst he
        have hcall2 : ∀ W, Calls Try.prog 35 #[.string s, .int .i64 x] W (fun en w' => en = .returned (.tuple #[.int .u64 (v : Int), .int .i64 (x + (u : Int)), .int .i64 0]) ∧ W = w') := hcall
        clear hcall
        go_wp2_with fail
        refine (hcall2 _).mono ?_
        rintro e w2 ⟨rfl, rfl⟩
        go_wp2_with (at_builtin; refine wpList_append_own _ rfl _ _ 22 rfl w.heap.size 40 i0 (.int .u64 0) 1 8 Try.underlying22 hi hz0 hz1 hz2 rfl (by decide) _ _ _ rfl (ho.alloc _) ⟨wr.heap.size, 0, none⟩ 1 1 [.int .u64 (v : Int)] rfl rfl ?c1 ?c2 ?c3 ?c4 ?c5 ?_)
        case c1 =>
          intro j u hj
          match j, hj with
          | 0, hj => simp at hj; subst hj; simp [Addr.add]
        case c2 => intro u hu; simp at hu; subst hu; rfl
        case c3 => unfold maxLen; omega
        case c4 => omega
        case c5 => simp; omega
        intro v' w3 ho' hg _
        have hb3 : Below w.heap.size w w3 := (hb.alloc (by omega) _).grown hg (by simp; omega) (fun j hj => (ho.lt j hj).1)
        clear ho hg hb hsz
        go_wp2
        go_roundw
        case rel =>
          have hin := tk_in (l := s.data.toList) (x := x) (by rw [HTK.out])
          rw [HTK.out] at hin
          have hu : 1 ≤ u := hin.2.1
          refine ⟨L ++ [v], x + (u : Int), by simp, rfl, by simp; omega, by omega, Or.inr ⟨?_, hin.2.2.1⟩, tr_good HTR.out hlt HTK.out, ?_, hb3⟩
          · rcases HLX.out with h1 | h1
            · rw [h1]; simp; omega
            · simp; omega
          · rw [us_append, us_one, List.length_append]; exact ho'
        case measure => simp [intOf]; omega
      · have hcall2 : ∀ W, Calls Try.prog 35 #[.string s, .int .i64 x] W (fun en w' => en = .returned (.tuple #[.int .u64 (v : Int), .int .i64 0, .int .i64 (e : Int)]) ∧ W = w') := by
          intro W
          refine (hcall W).mono ?_
          rintro en w' ⟨rfl, rfl⟩
          exact ⟨by rw [if_neg he], rfl⟩
        clear hcall
        have hee : ((e : Int) != 0) = true := by simp [he]
        have hee2 : ((e : Int) == 0) = false := by simp [he]
        have hRb := tr_bad HTR.out hlt HTK.out he
        subst hRb
        go_wp2_with fail
        refine (hcall2 _).mono ?_
        rintro e w2 ⟨rfl, rfl⟩
        go_wp2
        go_ret3
        exact ⟨none, 0, rfl, Rd.none_ _ _, by simp, by simp [maxLen], hb⟩
    · have hRd := tr_done HTR.out (by omega)
      obtain ⟨A1, c1, rfl⟩ := own_form ho
      have hro := Rd.of_own ho
      subst hRd
      go_wp2
      go_ret3
      exact ⟨A1, c1, rfl, hro.1, hro.2.1, hro.2.2.1, hb⟩

theorem takerow_any (s : ByteArray) (a n : Int) (w : World) (hs : s.size ≤ 1000000) (hn : n ≤ 9223372036854775807) :
    Calls Try.prog 36 #[.string s, .int .i64 a, .int .i64 n] w (RetTake (trow s.data.toList a n).2.1 (trow s.data.toList a n).2.2 ((trow s.data.toList a n).1 : Int) w) := by
  by_cases h : a < 0 ∨ n < 0
  · rw [trow, if_pos h]; exact takerow_arg s a n w h
  · rw [trow, if_neg h]
    have e := takerow_ok s a n.toNat w hs (by omega) (by omega)
    rwa [Int.toNat_of_nonneg (by omega)] at e
theorem rtakerow_any (s : ByteArray) (a n : Int) (w : World) (hs : s.size ≤ 1000000) (hn : n ≤ 9223372036854775807) :
    Calls Try.prog 37 #[.string s, .int .i64 a, .int .i64 n] w (RetTake (trow s.data.toList a n).2.1 (trow s.data.toList a n).2.2 ((trow s.data.toList a n).1 : Int) w) := by
  by_cases h : a < 0 ∨ n < 0
  · rw [trow, if_pos h]; exact rtakerow_arg s a n w h
  · rw [trow, if_neg h]
    have e := rtakerow_ok s a n.toNat w hs (by omega) (by omega)
    rwa [Int.toNat_of_nonneg (by omega)] at e
end Go.Proofs.Ytdnngacamdohiaa
