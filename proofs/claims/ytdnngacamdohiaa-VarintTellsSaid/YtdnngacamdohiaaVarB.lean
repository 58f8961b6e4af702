/-
  The walks of varint's Put and Len, and of the reference's Put, Len, Row. Conditions: lengths that fit, as typed.
-/
import Derived.Test.YtdnngacamdohiaaVarA
import Derived.Test.YtdnngacamdohiaaLater
import Derived.Deep.RegionHeld3
import Derived.Deep.RegionWith
namespace Go.Proofs.Ytdnngacamdohiaa
open Go.RowKit

theorem pow128 : (128 : Nat) ^ 10 = 1180591620717411303424 := by decide

set_option maxRecDepth 100000 in
set_option maxHeartbeats 400000 in
theorem vput_any (v : Nat) (w : World) (hv : v < 18446744073709551616) :
    Calls Try.prog 27 #[.int .u64 (v : Int)] w fun e w' => e = .returned (.string ⟨(vB v).toArray⟩) ∧ Below w.heap.size w w' := by
  have h := fun W A c (hW : Rd W A (us [v])) => row_any A [v] c W hW (by simp) (by simpa using hv)
  rw [rowB_one] at h
  have H := Lib.hid h
  clear h
  go_enter Try.func27, Try.ntmps27
  go_wp2_with fail
  refine (H.out _ _ 1 (Rd.lit w _ _ _ rfl)).mono ?_
  rintro e w1 ⟨rfl, hb⟩
  go_wp2
  go_ret
  exact ⟨rfl, bl_step (bl_alloc (bl_refl w) _) hb⟩

def LenRel (v : Nat) (x n : Value) : Prop := ∃ k j y, j + (vb k y).length = (vB v).length ∧ y < 128 ^ (k + 1) ∧ y < 18446744073709551616 ∧ x = .int .u64 (y : Int) ∧ n = .int .i64 ((j : Int) + 1)
theorem len_rel {v k j y : Nat} (h128 : 128 ≤ y) (hd : j + (vb k y).length = (vB v).length) (hy : y < 128 ^ (k + 1)) (h64 : y < 18446744073709551616) : LenRel v (.int .u64 ((y : Int) / 128)) (.int .i64 ((j : Int) + 1 + 1)) := by
  cases k with
  | zero => simp at hy; omega
  | succ k =>
    rw [vb_more k y h128, List.length_cons] at hd
    exact ⟨k, j + 1, y / 128, by omega, Nat.div_lt_of_lt_mul (by rw [Nat.mul_comm, ← Nat.pow_succ]; exact hy), by omega, by rw [Int.natCast_ediv]; rfl, by congr 1⟩

set_option maxRecDepth 100000 in
set_option maxHeartbeats 400000 in
theorem vlen_any (v : Nat) (w : World) (hv : v < 18446744073709551616) :
    Calls Try.prog 29 #[.int .u64 (v : Int)] w fun e w' => e = .returned (.int .i64 (((vB v).length : Nat) : Int)) ∧ w = w' := by
  go_enter Try.func29, Try.ntmps29
  go_wp2
  go_loop [0, 3] (fun x n => LenRel v x n) (fun x _ => (intOf x).toNat)
  case atStart => exact ⟨9, 0, v, by simp [vB], by rw [pow128]; omega, hv, rfl, rfl⟩
  case round =>
    obtain ⟨k, j, y, hd, hyk, hy64, rfl, rfl⟩ := hrel
    have hj : j ≤ 10 := by have := vB_len v; omega
    have HD := Lib.hid hd
    have HY := Lib.hid hyk
    clear hd hyk
    by_cases h128 : 128 ≤ y
    · go_wp2
      exact ⟨len_rel h128 HD.out HY.out hy64, by simp [intOf]; omega⟩
    · have hfin : Hid ((((vB v).length : Nat) : Int) = (j : Int) + 1) := Lib.hid (by
        have := HD.out
        rw [vb_small k y (by omega)] at this
        simp at this
        omega)
      clear HD HY
      go_wp2
      go_ret
      exact ⟨by rw [hfin.out]; rfl, rfl⟩

theorem conv_one {P : Program} (src dst e : TypeId) (b : UInt8) (x : Int) (hx : x = (b.toNat : Int)) (hs : P.underlying src = some (.slice e)) (he : P.underlying e = some (.int .u8)) (hd : P.underlying dst = some .string) :
    ∀ (W : World) (g c : Nat), W.cell? ⟨g, 0, none⟩ = some (.int .u8 x) → (convert src dst (.slice (some ⟨g, 0, none⟩) 1 c)).run P W = .ok (.string ⟨[b].toArray⟩) W := fun W g c h => by
  subst hx
  exact run_convert_bytes_back W src dst e ⟨g, 0, none⟩ c [b] hs he hd (fun j hj => by
    have : j = 0 := by simpa using hj
    subst this
    simpa [Addr.add] using h)

theorem bcell {w w' : World} (h : Below w.heap.size w w') : ∀ b o, b < w.heap.size → w'.cell? ⟨b, o, none⟩ = w.cell? ⟨b, o, none⟩ := fun b o hb => h.cell (p := ⟨b, o, none⟩) hb

set_option maxRecDepth 100000 in
set_option maxHeartbeats 1000000 in
theorem refvput_any (k : Nat) : ∀ (v : Nat) (w : World), v < 128 ^ (k + 1) → v < 18446744073709551616 → k ≤ 9 →
    Calls Try.prog 28 #[.int .u64 (v : Int)] w fun e w' => e = .returned (.string ⟨(vb k v).toArray⟩) ∧ Below w.heap.size w w' := by
  induction k with
  | zero =>
    intro v w hk hv _
    have h128 : v < 128 := by simpa using hk
    have hcv := conv_one (P := Try.prog) 43 9 5 (UInt8.ofNat v) (v : Int) (last_cell v h128) Try.underlying43 Try.underlying5 Try.underlying9
    clear hk
    go_enter Try.func28, Try.ntmps28
    go_wp2_with fail
    go_ret
    exact ⟨by rw [vb_small 0 v h128]; rfl, bl_alloc (bl_refl w) _⟩
  | succ k ih =>
    intro v w hk hv hk9
    by_cases h128 : v < 128
    · have hcv := conv_one (P := Try.prog) 43 9 5 (UInt8.ofNat v) (v : Int) (last_cell v h128) Try.underlying43 Try.underlying5 Try.underlying9
      have IH := Lib.hid ih
      clear hk ih
      go_enter Try.func28, Try.ntmps28
      go_wp2_with fail
      go_ret
      exact ⟨by rw [vb_small _ v h128]; rfl, bl_alloc (bl_refl w) _⟩
    · have h128' : 128 ≤ v := by omega
      have hcv := conv_one (P := Try.prog) 43 9 5 (UInt8.ofNat (v % 128 + 128)) _ rfl Try.underlying43 Try.underlying5 Try.underlying9
      have hih : ∀ W, Calls Try.prog 28 #[.int .u64 ((v : Int) / 128)] W fun e w' => e = .returned (.string ⟨(vb k (v / 128)).toArray⟩) ∧ Below W.heap.size W w' := fun W => by
        have := ih (v / 128) W (Nat.div_lt_of_lt_mul (by rw [Nat.mul_comm, ← Nat.pow_succ]; exact hk)) (by omega) (by omega)
        rwa [Int.natCast_ediv] at this
      have hlen := vb_len k (v / 128)
      obtain ⟨t, ht⟩ : ∃ t, t = vb k (v / 128) := ⟨_, rfl⟩
      rw [← ht] at hih hlen
      have hadd := str_add (P := Try.prog) [UInt8.ofNat (v % 128 + 128)] t (UInt8.ofNat (v % 128 + 128) :: t) rfl (by simp only [List.length_cons]; omega)
      have hvm := vb_more k v h128'
      rw [← ht] at hvm
      rw [hvm]
      have hnum : IntKind.u8.wrap (IntKind.u64.wrap ((v : Int).tmod 128 + 128)) = ((UInt8.ofNat (v % 128 + 128)).toNat : Int) := by
        rw [Int.tmod_eq_emod_of_nonneg (by omega), IntKind.wrap_u64, IntKind.wrap_u8', UInt8.toNat_ofNat']; omega
      obtain ⟨q, hq⟩ : ∃ q, q = UInt8.ofNat (v % 128 + 128) := ⟨_, rfl⟩
      rw [← hq] at hcv hadd hnum ⊢
      have hdiv : IntKind.u64.wrap ((v : Int) / 128) = (v : Int) / 128 := IntWalk.u64_in _ (by omega)
      have IH := Lib.hid hih
      clear hk ih hih hlen ht hvm hq h128
      go_enter Try.func28, Try.ntmps28
      go_wp2_with fail
      go_region_with (go_at_call 28; with_reducible refine (IH.out _).mono ?_; rintro e wA ⟨rfl, hA⟩; have hAc := bcell hA)
      all_goals
        go_wp2
        go_ret
        refine ⟨rfl, ?_⟩
        first
          | exact bl_step (Below.drew (bl_alloc (bl_refl w) _)) hA
          | exact bl_alloc (bl_step (Below.drew (bl_refl w)) hA) _

theorem refput1_any (v : Nat) (w : World) (hv : v < 18446744073709551616) :
    Calls Try.prog 28 #[.int .u64 (v : Int)] w fun e w' => e = .returned (.string ⟨(vB v).toArray⟩) ∧ Below w.heap.size w w' :=
  refvput_any 9 v w (by rw [pow128]; omega) hv (by omega)

set_option maxRecDepth 100000 in
set_option maxHeartbeats 400000 in
theorem reflen_any (v : Nat) (w : World) (hv : v < 18446744073709551616) :
    Calls Try.prog 30 #[.int .u64 (v : Int)] w fun e w' => e = .returned (.int .i64 (((vB v).length : Nat) : Int)) ∧ Below w.heap.size w w' := by
  have h := fun W => refput1_any v W hv
  obtain ⟨q, hq⟩ : ∃ q, q = vB v := ⟨_, rfl⟩
  rw [← hq] at h ⊢
  clear hq
  have H := Lib.hid h
  clear h
  go_enter Try.func30, Try.ntmps30
  go_wp2_with fail
  refine (H.out _).mono ?_
  rintro e w1 ⟨rfl, hb⟩
  go_wp2
  go_ret
  exact ⟨rfl, hb⟩

def RRowRel (l : List Nat) (w : World) (o i : Value) (wr : World) : Prop :=
  ∃ j, j ≤ l.length ∧ i = .int .i64 (j : Int) ∧ o = .string ⟨(rowB (l.take j)).toArray⟩ ∧ Below w.heap.size w wr

set_option maxRecDepth 100000 in
set_option maxHeartbeats 400000 in
theorem refrow_any (A : Option Addr) (l : List Nat) (c : Nat) (w : World) (hr : Rd w A (us l)) (hl : l.length ≤ 10000) (hv : ∀ x ∈ l, x < 18446744073709551616) :
    Calls Try.prog 32 #[.slice A l.length c] w fun e w' => e = .returned (.string ⟨(rowB l).toArray⟩) ∧ Below w.heap.size w w' := by
  go_enter Try.func32, Try.ntmps32
  go_wp2
  go_loopw [3, 4] (fun o i wr => RRowRel l w o i wr) (fun _ i _ => l.length - (intOf i).toNat)
  case atStart => exact ⟨0, Nat.zero_le _, rfl, rfl, Below.refl _ _⟩
  case round =>
    obtain ⟨j, hj, rfl, rfl, hb⟩ := hrel
    by_cases hlt : j < l.length
    · obtain ⟨b, off, rfl, _, hc⟩ := (hr.below hb).us_at (k := j) hlt
      obtain ⟨x, hx⟩ : ∃ x, x = l[j]?.getD 0 := ⟨_, rfl⟩
      have hx64 : x < 18446744073709551616 := by rw [hx, List.getElem?_eq_getElem hlt]; exact hv _ (List.getElem_mem hlt)
      have hps : (rowB (l.take j)).length ≤ 100000 := by have := rowB_len (l.take j); rw [List.length_take] at this; omega
      have hls := vB_len x
      rw [← hx] at hc
      have HX := Lib.hid hx
      clear hx
      obtain ⟨p, hp⟩ : ∃ p, p = rowB (l.take j) := ⟨_, rfl⟩
      rw [← hp] at hps ⊢
      have HP := Lib.hid hp
      clear hp
      obtain ⟨q, hq⟩ : ∃ q, q = vB x := ⟨_, rfl⟩
      have hcall := fun W => refput1_any x W hx64
      rw [← hq] at hcall hls
      have hadd := str_add (P := Try.prog) p q (p ++ q) rfl (by rw [List.length_append]; omega)
      have HQ := Lib.hid hq
      have HC := Lib.hid hcall
      clear hq hcall
      go_wp2_with fail
      refine (HC.out _).mono ?_
      rintro e w1 ⟨rfl, hb1⟩
      go_wp2
      exact ⟨⟨j + 1, hlt, by go_num, by rw [rowB_succ l j hlt, ← HX.out, ← HP.out, ← HQ.out], bl_step hb hb1⟩, by simp [intOf]; omega⟩
    · go_wp2
      go_ret
      exact ⟨by rw [List.take_of_length_le (by omega)]; rfl, hb⟩
end Go.Proofs.Ytdnngacamdohiaa
