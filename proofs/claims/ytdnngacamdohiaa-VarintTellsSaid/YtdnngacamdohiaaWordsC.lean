/-
  The walks of Put and PutHalf, of the program and of the reference. Conditions: lengths that fit, as typed.
-/
import Derived.Test.YtdnngacamdohiaaWordsB
namespace Go.Proofs.Ytdnngacamdohiaa
open Go.RowKit

def RPutRel (l : List Nat) (w : World) (o i : Value) (wr : World) : Prop :=
  ∃ j, j ≤ l.length ∧ i = .int .i64 (j : Int) ∧ o = .string ⟨(putB 8 (l.take j)).toArray⟩ ∧ Below w.heap.size w wr

theorem put_succ (k : Nat) (l : List Nat) (j : Nat) (h : j < l.length) : putB k (l.take (j + 1)) = putB k (l.take j) ++ leB (l[j]?.getD 0) k := by
  rw [List.take_succ_eq_append_getElem h, putB_append, putB_one, List.getElem?_eq_getElem h, Option.getD_some]

set_option maxHeartbeats 400000 in
theorem refput_any (A : Option Addr) (l : List Nat) (c : Nat) (w : World) (hr : Rd w A (us l)) (hl : l.length ≤ 100000) (hv : ∀ x ∈ l, x < 18446744073709551616) :
    Calls Try.prog 17 #[.slice A l.length c] w fun e w' => e = .returned (.string ⟨(putB 8 l).toArray⟩) ∧ Below w.heap.size w w' := by
  go_enter Try.func17, Try.ntmps17
  go_wp2
  go_loopw [3, 4] (fun o i wr => RPutRel l w o i wr) (fun _ i _ => l.length - (intOf i).toNat)
  case atStart => exact ⟨0, Nat.zero_le _, rfl, rfl, Below.refl _ _⟩
  case round =>
    obtain ⟨j, hj, rfl, rfl, hb⟩ := hrel
    by_cases hlt : j < l.length
    · obtain ⟨b, off, rfl, _, hc⟩ := (hr.below hb).us_at (k := j) hlt
      obtain ⟨x, hx⟩ : ∃ x, x = l[j]?.getD 0 := ⟨_, rfl⟩
      have hx64 : x < 18446744073709551616 := by rw [hx, List.getElem?_eq_getElem hlt]; exact hv _ (List.getElem_mem hlt)
      have hps : (putB 8 (l.take j)).length ≤ 800000 := by rw [putB_len]; simp; omega
      have hls : (leB x 8).length ≤ 8 := by rw [leB_len]; omega
      rw [← hx] at hc
      have HX := Lib.hid hx
      clear hx
      obtain ⟨p, hp⟩ : ∃ p, p = putB 8 (l.take j) := ⟨_, rfl⟩
      rw [← hp] at hps ⊢
      have HP := Lib.hid hp
      clear hp
      go_wp2_with (go_at_call 39; refine (refbytes_any _ 8 _ hx64 (by omega)).mono ?_; rintro e w1 ⟨rfl, hb1⟩)
      exact ⟨⟨j + 1, hlt, by go_num, by rw [ByteArray.mk_append_mk, put_succ 8 l j hlt, ← HX.out, ← HP.out], hb.trans (hb1.mono hb.size)⟩, by simp [intOf]; omega⟩
    · go_wp2
      go_ret
      exact ⟨by rw [List.take_of_length_le (by omega)]; rfl, hb⟩

set_option maxHeartbeats 400000 in
theorem refputhalf_any (v : Nat) (w : World) (hv : v < 4294967296) :
    Calls Try.prog 19 #[.int .u32 (v : Int)] w fun e w' => e = .returned (.string ⟨(leB v 4).toArray⟩) ∧ Below w.heap.size w w' := by
  have hv' : v < 18446744073709551616 := by omega
  go_enter Try.func19, Try.ntmps19
  go_wp2_with (go_at_call 39; refine (refbytes_any _ 4 _ hv' (by omega)).mono ?_; rintro e w1 ⟨rfl, hb1⟩)
  go_ret
  exact ⟨rfl, hb1⟩

/-! ### the program's -/
def WPutRel (l : List Nat) (w : World) (b i : Value) (wr : World) : Prop :=
  ∃ j, j ≤ l.length ∧ i = .int .i64 (j : Int) ∧ wr.ownsRow w.heap.size 5 1 b (8 * j) (bs (putB 8 (l.take j))) ∧ Below w.heap.size w wr

set_option maxHeartbeats 400000 in
theorem put_any (A : Option Addr) (l : List Nat) (c : Nat) (w : World) (hr : Rd w A (us l)) (hl : l.length ≤ 100000) (hv : ∀ x ∈ l, x < 18446744073709551616) :
    Calls Try.prog 16 #[.slice A l.length c] w fun e w' => e = .returned (.string ⟨(putB 8 l).toArray⟩) ∧ Below w.heap.size w w' := by
  go_enter Try.func16, Try.ntmps16
  go_wp2
  go_loopw [3, 8] (fun b i wr => WPutRel l w b i wr) (fun _ i _ => l.length - (intOf i).toNat)
  case atStart => exact ⟨0, Nat.zero_le _, rfl, World.ownsRow_nil _ _ _ _, Below.refl _ _⟩
  case round =>
    obtain ⟨j, hj, rfl, ho, hb⟩ := hrel
    by_cases hlt : j < l.length
    · obtain ⟨b, off, rfl, _, hc⟩ := (hr.below hb).us_at (k := j) hlt
      obtain ⟨x, hx⟩ : ∃ x, x = l[j]?.getD 0 := ⟨_, rfl⟩
      have hx64 : x < 18446744073709551616 := by rw [hx, List.getElem?_eq_getElem hlt]; exact hv _ (List.getElem_mem hlt)
      rw [← hx] at hc
      have HX := Lib.hid hx
      clear hx
      obtain ⟨A1, c1, rfl⟩ := own_form ho
      go_wp2_with (go_at_call 38; refine (lay64_any w.heap.size _ (8 * j) _ x 8 _ ho hb.size (by omega) hx64).mono ?_; rintro e w1 ⟨v1, rfl, ho1, hb1⟩)
      obtain ⟨A2, c2, rfl⟩ := own_form ho1
      go_wp2
      exact ⟨⟨j + 1, hlt, by go_num, by rw [put_succ 8 l j hlt, bs_append, ← HX.out]; exact ho1, hb.trans hb1⟩, by simp [intOf]; omega⟩
    · obtain rfl : j = l.length := by omega
      obtain ⟨A1, c1, rfl⟩ := own_form ho
      have hcv := conv_back (P := Try.prog) wr 43 9 5 A1 c1 (putB 8 (l.take l.length)) Try.underlying43 Try.underlying5 Try.underlying9 (Rd.of_own ho).1
      rw [putB_len, List.length_take, Nat.min_self] at hcv
      go_wp2
      go_ret
      exact ⟨rfl, hb⟩

theorem put_len (A : Option Addr) (l : List Nat) (n c : Nat) (w : World) (hn : l.length = n) (hr : Rd w A (us l)) (hl : n ≤ 100000) (hv : ∀ x ∈ l, x < 18446744073709551616) :
    Calls Try.prog 16 #[.slice A n c] w fun e w' => e = .returned (.string ⟨(putB 8 l).toArray⟩) ∧ Below w.heap.size w w' := by
  subst hn
  exact put_any A l c w hr hl hv

set_option maxHeartbeats 400000 in
theorem puthalf_any (v : Nat) (w : World) (hv : v < 4294967296) :
    Calls Try.prog 18 #[.int .u32 (v : Int)] w fun e w' => e = .returned (.string ⟨(leB v 4).toArray⟩) ∧ Below w.heap.size w w' := by
  go_enter Try.func18, Try.ntmps18
  go_wp2_with (go_at_call 40; refine (lay32_any w.heap.size _ 0 [] v 4 _ (World.ownsRow_nil _ _ _ _) (Nat.le_refl _) (by omega) hv).mono ?_; rintro e w1 ⟨v1, rfl, ho1, hb1⟩; obtain ⟨A1, c1, rfl⟩ := own_form ho1; have hcv := conv_back (P := Try.prog) w1 43 9 5 A1 c1 (leB v 4) Try.underlying43 Try.underlying5 Try.underlying9 (Rd.of_own ho1).1; rw [leB_len] at hcv)
  go_ret
  exact ⟨rfl, hb1⟩
end Go.Proofs.Ytdnngacamdohiaa
