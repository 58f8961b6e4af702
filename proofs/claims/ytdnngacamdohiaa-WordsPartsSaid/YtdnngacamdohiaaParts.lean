/-
  WordsParts: the walk of the law. Conditions: the slice reads as numbers of 64 bits.
-/
import Derived.Test.YtdnngacamdohiaaWordsF
import Derived.Deep.QuietTactic
import Derived.BigQuiet
import Derived.Deep.Draws
import Derived.Deep.RegionHeld3
namespace Go.Proofs.Ytdnngacamdohiaa
open Go.RowKit

def PartsRel (f : List Nat) (w : World) (i : Value) (wr : World) : Prop := ∃ k, k ≤ f.length ∧ i = .int .i64 ((k : Nat) : Int) ∧ Below w.heap.size w wr

/-- Each number is taken alone, at its place. -/
theorem take_each (p : List UInt8) (f : List Nat) (hp : p = putB 8 f) (hf : f.length ≤ 1000) (hv : ∀ x ∈ f, x < 18446744073709551616) (i : Nat) (hi : i < f.length) (W : World) :
    Calls Try.prog 23 #[.string ⟨p.toArray⟩, .int .i64 (8 * (i : Int)), .int .i64 1] W (RetTake [f[i]?.getD 0] (8 * (i : Int) + 8) 0 W) := by
  have hl : (ByteArray.mk p.toArray).size = 8 * f.length := by rw [hp]; exact (putB_len 8 f)
  have hE : takeE (ByteArray.mk p.toArray).size (8 * (i : Int)) 1 8 = 0 := takeE_ok (by omega) (by rw [hl]; omega)
  have h := take_any ⟨p.toArray⟩ (8 * (i : Int)) 1 W (by rw [hl]; omega) (by omega) (by omega)
  rw [tkL, tkN, hE] at h
  have e2 : takeL p (8 * i) 8 1 = [f[i]?.getD 0] := by
    rw [hp, takeL_putB_one 8 f i hi, Nat.mod_eq_of_lt]
    rw [List.getElem?_eq_getElem hi]
    exact hv _ (List.getElem_mem hi)
  have e3 : takeL (ByteArray.mk p.toArray).data.toList (8 * (i : Int)).toNat 8 (1 : Int).toNat = [f[i]?.getD 0] := by
    rw [show (8 * (i : Int)).toNat = 8 * i by omega]
    exact e2
  simp only [if_true, e3] at h
  rw [show (8 * (i : Int) + 8) = (8 * (i : Int) + 1 * ((8 : Nat) : Int)) by omega]
  exact h

/-- At the end none are taken. -/
theorem take_end (p : List UInt8) (hp : p.length ≤ 1000) (W : World) :
    Calls Try.prog 23 #[.string ⟨p.toArray⟩, .int .i64 (p.length : Int), .int .i64 0] W (RetTake [] (p.length : Int) 0 W) := by
  have hl : (ByteArray.mk p.toArray).size = p.length := rfl
  have hE : takeE (ByteArray.mk p.toArray).size (p.length : Int) 0 8 = 0 := takeE_ok (by omega) (by rw [hl]; omega)
  have h := take_any ⟨p.toArray⟩ (p.length : Int) 0 W (by rw [hl]; omega) (by omega) (by omega)
  rw [tkL, tkN, hE] at h
  simpa [takeL] using h
/-- Behind the end it is too short. -/
theorem take_over (p : List UInt8) (hp : p.length ≤ 1000) (W : World) :
    Calls Try.prog 23 #[.string ⟨p.toArray⟩, .int .i64 ((p.length : Int) + 1), .int .i64 0] W (RetTake [] 0 2 W) := by
  have hl : (ByteArray.mk p.toArray).size = p.length := rfl
  have hE : takeE (ByteArray.mk p.toArray).size ((p.length : Int) + 1) 0 8 = 2 := takeE_short (by omega) (by rw [hl]; omega)
  have h := take_any ⟨p.toArray⟩ ((p.length : Int) + 1) 0 W (by rw [hl]; omega) (by omega) (by omega)
  rw [tkL, tkN, hE] at h
  simpa using h

set_option maxHeartbeats 1000000 in
theorem parts_walk (A : Option Addr) (l : List Nat) (cap : Nat) (at_ : Int) (w : World) (hr : Rd w A (us l)) (hc : l.length ≤ cap) (hm : cap ≤ 9223372036854775807) (hv : ∀ x ∈ l, x < 18446744073709551616) (ha1 : -9223372036854775808 ≤ at_) (ha2 : at_ ≤ 9223372036854775807) :
    Calls Try.prog 7 #[.slice A l.length cap, .int .i64 at_] w (RetTrue w) := by
  obtain ⟨f, hf⟩ : ∃ f, f = l.take 20 := ⟨_, rfl⟩
  have hmin := min_is (P := Try.prog) l.length f.length 20 (by rw [hf, List.length_take]; omega)
  have hf20 : f.length ≤ 20 := by rw [hf, List.length_take]; omega
  have hfl : f.length ≤ l.length := by rw [hf, List.length_take]; omega
  have HF := Lib.hid hf
  clear hf
  go_enter Try.func7, Try.ntmps7
  go_wp2_with fail
  refine (awake2_any _).mono ?_
  rintro e w1 ⟨rfl, hb1⟩
  go_wp2_with fail
  rw [show ((f.length : Int) + 1) = ((f.length + 1 : Nat) : Int) by omega]
  refine (pick2_any at_ (f.length + 1) _ ha1 ha2 (by omega) (by omega)).mono ?_
  rintro e w2 ⟨rfl, rfl⟩
  have hk := pickN_lt at_ (f.length + 1) (by omega)
  obtain ⟨k, hk0⟩ : ∃ k, k = pickN at_ (f.length + 1) := ⟨_, rfl⟩
  rw [← hk0] at hk ⊢
  clear hk0
  go_wp2_with fail
  have hrf : Rd w1 A (us f) := by rw [HF.out]; exact (hr.take 20).below hb1
  have hvf : ∀ x ∈ f, x < 18446744073709551616 := fun x hx => hv x (List.mem_of_mem_take (by rw [← HF.out]; exact hx))
  refine (put_any A f cap _ hrf (by omega) hvf).mono ?_
  rintro e w3 ⟨rfl, hb3⟩
  obtain ⟨p, hp⟩ : ∃ p, p = putB 8 f := ⟨_, rfl⟩
  rw [← hp]
  have hpl : p.length = 8 * f.length := by rw [hp, putB_len]
  have HPL := Lib.hid hpl
  have HP := Lib.hid hp
  have HV := Lib.hid hvf
  have hrf3 := hrf.below hb3
  have hb13 := bl_step hb1 hb3
  clear hpl hp hb1 hb3 hrf hr hv hvf
  go_wp2
  go_loopw [9] (fun i wr => PartsRel f w3 i wr) (fun i _ => f.length - (intOf i).toNat)
  case atStart => exact ⟨0, Nat.zero_le _, rfl, bl_refl _⟩
  case round =>
    obtain ⟨i, hi, rfl, hb⟩ := hrel
    by_cases hlt : i < f.length
    · go_wp2_with fail
      refine (take_each p f HP.out (by omega) HV.out i hlt _).mono ?_
      rintro e w4 ⟨A1, c1, rfl, hr4, hc4, hm4, hb4⟩
      obtain ⟨b1, o1, rfl, _, hcell1⟩ := hr4.us_at (k := 0) (by simp)
      obtain ⟨b, off, rfl, _, hcell⟩ := (hrf3.below (bl_step hb hb4)).us_at (k := i) hlt
      obtain ⟨x, hx⟩ : ∃ x, x = f[i]?.getD 0 := ⟨_, rfl⟩
      rw [← hx] at hcell hcell1
      rw [Nat.add_zero] at hcell1
      clear hx
      have e1 : IntKind.i64.wrap (8 * (i : Int)) = 8 * (i : Int) := IntWalk.i64_in _ (by omega)
      have e2 : IntKind.i64.wrap (8 * (i : Int) + 8) = 8 * (i : Int) + 8 := IntWalk.i64_in _ (by omega)
      go_wp2
      go_quiet (fail)
      clear e1 e2
      go_wp2
      exact ⟨⟨i + 1, hlt, by go_num, bl_drewN (bl_step hb hb4) _⟩, by simp [intOf]; omega⟩
    · have hpm : p.length ≤ 1000 := by rw [HPL.out]; omega
      go_wp2_with fail
      refine (take_end p hpm _).mono ?_
      rintro e w4 ⟨A1, c1, rfl, hr4, hc4, hm4, hb4⟩
      go_wp2_with fail
      refine (take_over p hpm _).mono ?_
      rintro e w5 ⟨A2, c2, rfl, hr5, hc5, hm5, hb5⟩
      have hrf5 := hrf3.below (bl_step (bl_step hb hb4) hb5)
      have hb15 := bl_step (bl_step (bl_step hb13 hb) hb4) hb5
      clear hb hb4 hb5 hb13 hrf3 hr4 hr5
      obtain ⟨i0, hi0, hz0, hz1, hz2⟩ := info_parts info_u64
      obtain ⟨A3, hsl, hrd⟩ := slice_from (P := Try.prog) 22 40 i0 Try.underlying22 (by kernel_rfl) hi0 hz1 A f.length cap k (by omega) (by omega)
      obtain ⟨pa, hpa⟩ : ∃ pa, pa = putB 8 (f.take k) := ⟨_, rfl⟩
      obtain ⟨pb, hpb⟩ : ∃ pb, pb = putB 8 (f.drop k) := ⟨_, rfl⟩
      have hPA : ∀ W, Rd W A (us f) → Calls Try.prog 16 #[.slice A k cap] W fun e w' => e = .returned (.string ⟨pa.toArray⟩) ∧ Below W.heap.size W w' := fun W hW => by
        rw [hpa]
        exact put_len A (f.take k) k cap W (by simp; omega) (hW.take k) (by omega) (fun x hx => HV.out x (List.mem_of_mem_take hx))
      have hPB : ∀ W, Rd W A (us f) → Calls Try.prog 16 #[.slice A3 (f.length - k) (cap - k)] W fun e w' => e = .returned (.string ⟨pb.toArray⟩) ∧ Below W.heap.size W w' := fun W hW => by
        rw [hpb]
        have := hrd W (us f) (us_len f) hW
        rw [us, ← List.map_drop] at this
        exact put_len A3 (f.drop k) (f.length - k) (cap - k) W (by simp) this (by omega) (fun x hx => HV.out x (List.mem_of_mem_drop hx))
      have hab := str_add (P := Try.prog) pa pb p (by rw [hpa, hpb, putB_take_drop, HP.out]) (by omega)
      have hk0 : 0 ≤ (k : Int) := by omega
      have hkc : (k : Int) ≤ (cap : Int) := by omega
      have HPA := Lib.hid hPA
      have HPB := Lib.hid hPB
      clear hPA hPB hpa hpb hrd hi0 hz0 hz1 hz2
      go_wp2_with fail
      go_region_held3 (fun w' => Below w5.heap.size w5 w')
        (first | assumption | exact bl_refl _ | exact bl_drewN (bl_refl _) 1 | (refine bl_step ?_ hB; assumption) | (refine bl_step ?_ hA; assumption))
        (first | (go_at_call 16; with_reducible refine (HPA.out _ ?_).mono ?_; exact hrf5.below ‹Below w5.heap.size w5 _›; rintro e wA ⟨rfl, hA⟩) | (go_at_call 16; with_reducible refine (HPB.out _ ?_).mono ?_; exact hrf5.below ‹Below w5.heap.size w5 _›; rintro e wB ⟨rfl, hB⟩))
      go_wp2
      go_ret
      exact ⟨rfl, bl_step hb15 (by assumption)⟩
end Go.Proofs.Ytdnngacamdohiaa
