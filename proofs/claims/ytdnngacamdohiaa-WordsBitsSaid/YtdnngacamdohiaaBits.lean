/-
  WordsBits: the walk of the law. Conditions: the slice reads as numbers of 64 bits.
-/
import Derived.Test.YtdnngacamdohiaaWordsF
import Derived.Deep.QuietTactic
import Derived.BigQuiet
import Derived.Deep.Draws
namespace Go.Proofs.Ytdnngacamdohiaa
open Go.RowKit

def BitsRel (f : List Nat) (w : World) (i : Value) (wr : World) : Prop := ∃ k, k ≤ f.length ∧ i = .int .i64 ((k : Nat) : Int) ∧ Below w.heap.size w wr
def BitsIn (w : World) (i : Value) (wr : World) : Prop := ∃ k, k ≤ 8 ∧ i = .int .i64 ((k : Nat) : Int) ∧ Below w.heap.size w wr

theorem put_at (K : Nat) (f : List Nat) (i k : Nat) (hi : i < f.length) (hk : k < K) : (putB K f)[K * i + k]?.getD 0 = UInt8.ofNat (f[i]?.getD 0 / 256 ^ k) := by
  induction f generalizing i with
  | nil => simp at hi
  | cons v r ih =>
    rw [putB_cons]
    cases i with
    | zero =>
      rw [Nat.mul_zero, Nat.zero_add, List.getElem?_append_left (by rw [leB_len]; exact hk)]
      simp [leB, hk]
    | succ i =>
      have := ih i (by simpa using hi)
      rw [List.getElem?_append_right (by rw [leB_len, Nat.mul_add]; omega), leB_len, show K * (i + 1) + k - K = K * i + k by rw [Nat.mul_add]; omega, this]
      simp
theorem byte_wrap (x k : Nat) : IntKind.u8.wrap ((x : Int) / 2 ^ (8 * k)) = ((x / 256 ^ k % 256 : Nat) : Int) := by
  rw [IntKind.wrap_u8', Int.pow_mul]
  simp

theorem put_part (p : List UInt8) (f : List Nat) (i : Nat) (hp : p = putB 8 f) (hi : i < f.length) :
    ((ByteArray.mk p.toArray).extract (8 * i) (8 * i + 4)).toList = leB (f[i]?.getD 0 % 4294967296) 4 := by
  rw [Lib.toList_data, Lib.extract_data, Nat.add_sub_cancel_left]
  apply List.ext_getElem?
  intro j
  by_cases hj : j < 4
  · rw [List.getElem?_take, if_pos hj, List.getElem?_drop]
    have h1 := put_at 8 f i j hi (by omega)
    have h2 : 8 * i + j < p.length := by rw [hp, putB_len]; omega
    rw [← hp] at h1
    show p[8 * i + j]? = _
    rw [List.getElem?_eq_getElem h2] at h1 ⊢
    rw [Option.getD_some] at h1
    rw [h1, List.getElem?_eq_getElem (l := leB _ 4) (by rw [leB_len]; exact hj)]
    congr 1
    simp only [leB, List.getElem_map, List.getElem_range]
    apply UInt8.toNat_inj.1
    rw [UInt8.toNat_ofNat', UInt8.toNat_ofNat', show 4294967296 = 256 ^ j * 256 ^ (4 - j) by rw [← Nat.pow_add, show j + (4 - j) = 4 by omega], Nat.mod_mul_right_div_self]
    obtain ⟨m, hm⟩ : ∃ m, 256 ^ (4 - j) = 256 * m := ⟨256 ^ (3 - j), by rw [show 4 - j = (3 - j) + 1 by omega, Nat.pow_succ, Nat.mul_comm]⟩
    rw [hm, Nat.mod_mul_right_mod]
  · rw [List.getElem?_eq_none (by rw [List.length_take]; omega), List.getElem?_eq_none (by rw [leB_len]; omega)]

set_option maxHeartbeats 1000000 in
theorem bits_walk (A : Option Addr) (l : List Nat) (cap : Nat) (w : World) (hr : Rd w A (us l)) (hc : l.length ≤ cap) (hm : cap ≤ 9223372036854775807) (hv : ∀ x ∈ l, x < 18446744073709551616) :
    Calls Try.prog 8 #[.slice A l.length cap] w (RetTrue w) := by
  obtain ⟨f, hf⟩ : ∃ f, f = l.take 20 := ⟨_, rfl⟩
  have hmin := min_is (P := Try.prog) l.length f.length 20 (by rw [hf, List.length_take]; omega)
  have hf20 : f.length ≤ 20 := by rw [hf, List.length_take]; omega
  have hfl : f.length ≤ l.length := by rw [hf, List.length_take]; omega
  have HF := Lib.hid hf
  clear hf
  go_enter Try.func8, Try.ntmps8
  go_wp2_with fail
  refine (awake2_any _).mono ?_
  rintro e w1 ⟨rfl, hb1⟩
  go_wp2_with fail
  have hrf : Rd w1 A (us f) := by rw [HF.out]; exact (hr.take 20).below hb1
  have hvf : ∀ x ∈ f, x < 18446744073709551616 := fun x hx => hv x (List.mem_of_mem_take (by rw [← HF.out]; exact hx))
  refine (put_any A f cap _ hrf (by omega) hvf).mono ?_
  rintro e w2 ⟨rfl, hb2⟩
  obtain ⟨p, hp⟩ : ∃ p, p = putB 8 f := ⟨_, rfl⟩
  rw [← hp]
  have hpl : p.length = 8 * f.length := by rw [hp, putB_len]
  have hne : ((p.length : Int) != 8 * (f.length : Int)) = false := by rw [hpl]; simp
  have HPL := Lib.hid hpl
  have HP := Lib.hid hp
  have hrf2 := hrf.below hb2
  have hb12 := bl_step hb1 hb2
  clear hpl hp hb1 hb2 hrf hr
  go_wp2
  go_loopw [6] (fun i wr => BitsRel f w2 i wr) (fun i _ => f.length - (intOf i).toNat)
  case atStart => exact ⟨0, Nat.zero_le _, rfl, bl_refl _⟩
  case round =>
    obtain ⟨i, hi, rfl, hb⟩ := hrel
    by_cases hlt : i < f.length
    · go_wp2
      obtain ⟨wo, rfl⟩ : ∃ wo : World, wo = wr := ⟨_, rfl⟩
      go_loopw [7] (fun k wr => BitsIn wo k wr) (fun k _ => 8 - (intOf k).toNat)
      case atStart => exact ⟨0, Nat.zero_le _, rfl, bl_refl _⟩
      case round =>
        obtain ⟨k, hk, rfl, hbk⟩ := hrel
        by_cases hlk : k < 8
        · have hix : 8 * i + k < p.length := by rw [HPL.out]; omega
          obtain ⟨b, off, rfl, _, hcell⟩ := (hrf2.below (bl_step hb hbk)).us_at (k := i) hlt
          obtain ⟨x, hx⟩ : ∃ x, x = f[i]?.getD 0 := ⟨_, rfl⟩
          rw [← hx] at hcell
          obtain ⟨c, hc1⟩ : ∃ c, c = x / 256 ^ k % 256 := ⟨_, rfl⟩
          have hby : ∀ h : 8 * i + k < (ByteArray.mk p.toArray).size, ((ByteArray.mk p.toArray)[8 * i + k]'h).toNat = c := fun h => by
            rw [bget, HP.out, put_at 8 f i k hlt (by omega), ← hx, hc1]; simp
          have hw : IntKind.u8.wrap ((x : Int) / 2 ^ (8 * k)) = (c : Int) := by
            rw [byte_wrap, hc1]
          have hcc : ((c : Int) != (c : Int)) = false := by simp
          have HX := Lib.hid hx
          have HC := Lib.hid hc1
          clear hx hc1
          have e1 : IntKind.i64.wrap (8 * (i : Int)) = 8 * (i : Int) := IntWalk.i64_in _ (by omega)
          have e2 : IntKind.i64.wrap (8 * (i : Int) + (k : Int)) = 8 * (i : Int) + (k : Int) := IntWalk.i64_in _ (by omega)
          have e3 : IntKind.i64.wrap (8 * (k : Int)) = 8 * (k : Int) := IntWalk.i64_in _ (by omega)
          have e4 : (8 * (i : Int) + (k : Int)).toNat = 8 * i + k := by omega
          have e5 : 0 ≤ 8 * (i : Int) + (k : Int) := by omega
          have e6 : 8 * (i : Int) + (k : Int) < (p.length : Int) := by omega
          have e7 : 0 ≤ 8 * (k : Int) := by omega
          have e8 : (8 * (k : Int)).toNat = 8 * k := by omega
          have e9 : min (8 * k) 64 = 8 * k := by omega
          go_wp2
          go_quiet (fail)
          clear e1 e2 e3 e4 e5 e6 e7 e8 e9 hby hw
          go_wp2
          exact ⟨⟨k + 1, by omega, by go_num, bl_drewN hbk _⟩, by simp [intOf]; omega⟩
        · obtain ⟨b, off, rfl, _, hcell⟩ := (hrf2.below (bl_step hb hbk)).us_at (k := i) hlt
          obtain ⟨x, hx⟩ : ∃ x, x = f[i]?.getD 0 := ⟨_, rfl⟩
          rw [← hx] at hcell
          have hpq := put_part p f i HP.out hlt
          rw [← hx] at hpq
          clear hx
          go_wp2_with fail
          rw [show ((x : Int) % 4294967296) = ((x % 4294967296 : Nat) : Int) by simp]
          refine (puthalf_any (x % 4294967296) _ (by omega)).mono ?_
          rintro e w3 ⟨rfl, hb3⟩
          obtain ⟨q, hq⟩ : ∃ q, q = leB (x % 4294967296) 4 := ⟨_, rfl⟩
          rw [← hq] at hpq ⊢
          have hql : ((q.length : Int) != 4) = false := by rw [hq, leB_len]; rfl
          have hpl2 : 8 * i + 4 ≤ p.length := by rw [HPL.out]; omega
          have HQ := Lib.hid hq
          clear hq
          go_wp2
          exact ⟨⟨i + 1, hlt, by go_num, bl_step (bl_step hb hbk) hb3⟩, by simp [intOf]; omega⟩
    · go_wp2
      go_ret
      exact ⟨rfl, bl_step hb12 hb⟩
end Go.Proofs.Ytdnngacamdohiaa
