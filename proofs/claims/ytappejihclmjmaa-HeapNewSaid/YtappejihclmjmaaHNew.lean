/-
  HeapNew: the walk of the law. Conditions: integers that fit.
-/
import Derived.Test.YtappejihclmjmaaHK
import Derived.Test.YtappejihclmjmaaPFlip
namespace Go.Proofs.Ytappejihclmjmaa
open Go.RowKit
attribute [local go_sem ↓] Go.wp_at_zero Go.wp_at_succ

/-- A fresh heap. -/
def hnew (b k : Int) (r : Nat) : Hp := ⟨b, k, 0, false, 0, [], [], [], [], List.replicate r 0⟩
theorem hnew_ok (b k : Int) (r : Nat) (h1 : 1 ≤ b) (h2 : 0 ≤ k) (h3 : k ≤ 4096) (h4 : b + 2 * k ≤ 9223372036854775808) : (hnew b k r).lay.Ok := by
  simp [hnew, Hp.lay, Lay.Ok]
  omega
theorem hnew_none (b k : Int) (r : Nat) (y : Int) : fndK (hnew b k r).lay y = 0 := by
  refine fnd_none _ _ fun p h1 h2 => ?_
  unfold Lay.has
  rw [lay_size]
  obtain rfl | rfl | rfl | rfl : p = 1 ∨ p = 2 ∨ p = 3 ∨ p = 4 := by omega
  all_goals
    simp only [hnew, Hp.part, List.length_nil]
    omega
theorem hnew_yes (b k : Int) (r : Nat) (h1 : 1 ≤ b) (h2 : 0 ≤ k) (h3 : k ≤ 4096) (h4 : b + 2 * k ≤ 9223372036854775808) (h5 : r ≤ 16) : newE b k r = 0 ∧ newH b k r = hnew b k r := by
  have h : newE b k r = 0 := by
    rw [newE, if_neg (by omega), if_neg (by omega)]
  exact ⟨h, by rw [newH, if_pos h]; rfl⟩
theorem hnew_no (b k : Int) (r : Nat) (h1 : 1 ≤ b) (h2 : 0 ≤ k) (h3 : k ≤ 4096) (h4 : 9223372036854775808 < b + 2 * k) (h5 : r ≤ 16) : newE b k r = 9 := by
  rw [newE, if_neg (by omega), if_pos (by omega)]
def HNRel (r : Nat) (i : Value) : Prop := ∃ j : Nat, j ≤ r ∧ i = .int .i64 (j : Int)

set_option maxRecDepth 100000 in
set_option maxHeartbeats 4000000 in
theorem hnew_walk (base n0 r0 y : Int) (w : World) (hb : 0 ≤ base ∧ base < 18446744073709551616) (hn : -9223372036854775808 ≤ n0 ∧ n0 ≤ 9223372036854775807) (hr : -9223372036854775808 ≤ r0 ∧ r0 ≤ 9223372036854775807) (hy : 0 ≤ y ∧ y < 18446744073709551616) :
    Calls Try.prog 12 #[.int .u64 base, .int .i64 n0, .int .i64 r0, .int .u64 y] w (RetTrue w) := by
  have hkb := pickI_b n0 4097 (by omega)
  have hrb := pickI_b r0 17 (by omega)
  have HPk := Lib.hid fun W => pick10_any n0 4097 W hn.1 hn.2 (by omega) (by omega)
  have HPr := Lib.hid fun W => pick10_any r0 17 W hr.1 hr.2 (by omega) (by omega)
  obtain ⟨k, hk⟩ : ∃ k, k = pickI n0 4097 := ⟨_, rfl⟩
  obtain ⟨r, hre⟩ : ∃ r : Nat, (r : Int) = pickI r0 17 := ⟨(pickI r0 17).toNat, by omega⟩
  rw [← hk] at hkb HPk
  rw [← hre] at hrb HPr
  obtain ⟨hk0, hk1⟩ := hkb
  have hr1 := hrb.2
  clear hrb
  clear hk hre hn hr
  obtain ⟨b, hbe⟩ : ∃ b, b = 1 + base % (9223372036854775808 - 2 * k) := ⟨_, rfl⟩
  have hb1 : 1 ≤ b := by rw [hbe]; have := Int.emod_nonneg base (b := 9223372036854775808 - 2 * k) (by omega); omega
  have hb2 : b + 2 * k ≤ 9223372036854775808 := by rw [hbe]; have := Int.emod_lt_of_pos base (b := 9223372036854775808 - 2 * k) (by omega); omega
  obtain ⟨hw1, hw2⟩ := hb
  obtain ⟨hy1, hy2⟩ := hy
  have HBE := Lib.hid (show IntKind.u64.wrap (1 + base % (9223372036854775808 - 2 * k)) = b by rw [← hbe]; exact IntWalk.u64_in _ (by omega))
  clear hbe
  have HN1 := Lib.hid fun W => new_any b k r W (by omega) (by omega) (by omega)
  have HN2 := Lib.hid fun W => new_any (9223372036854775808 - 2 * k + 1) k r W (by omega) (by omega) (by omega)
  have HN3 := Lib.hid fun W => new_any (9223372036854775808 - 2 * k) k r W (by omega) (by omega) (by omega)
  rw [(hnew_yes b k r hb1 hk0 (by omega) hb2 (by omega)).1, (hnew_yes b k r hb1 hk0 (by omega) hb2 (by omega)).2] at HN1
  rw [hnew_no (9223372036854775808 - 2 * k + 1) k r (by omega) hk0 (by omega) (by omega) (by omega)] at HN2
  rw [(hnew_yes (9223372036854775808 - 2 * k) k r (by omega) hk0 (by omega) (by omega) (by omega)).1] at HN3
  have hok := hnew_ok b k r hb1 hk0 (by omega) hb2
  have HRM := Lib.hid fun W => room_ok (hnew b k r).lay W hok
  have HRT := Lib.hid fun W => right_yes (hnew b k r).lay W (ok_wf hok) hok
  have HRD := Lib.hid fun (v : Hv) W (a : v.Is W (hnew b k r)) => read_any v (hnew b k r) y W a (ok_wf hok) hy1 hy2
  have HWR := Lib.hid fun (v : Hv) W (a : v.Is W (hnew b k r)) => write_any v (hnew b k r) b 1 W a (ok_wf hok) (by omega) (by omega) (by simp [hnew]) (by simp [hnew]) (by simp [hnew]) (by simp [hnew]) (by simp [hnew]; omega)
  have e0 := hnew_none b k r
  rw [show fndE (hnew b k r).lay y = 6 by rw [fndE, if_pos hok, if_pos (e0 y)], rd_none _ _ (fun h => h.2 (e0 y))] at HRD
  rw [show fndE (hnew b k r).lay b = 6 by rw [fndE, if_pos hok, if_pos (e0 b)]] at HWR
  rw [show ((0 : Nat) : Int) = 0 from rfl] at HRD
  rw [show ((1 : Nat) : Int) = 1 from rfl] at HWR
  clear e0
  have HOK := Lib.hid hok
  clear hok
  go_enter Try.func12, Try.ntmps12
  go_wp2_with fail
  refine (awake10_any _).mono ?_
  intro e w1 hr1
  obtain ⟨rfl, hbw1⟩ := id hr1
  clear hr1
  go_wp2_with fail
  refine (HPk.out _).mono ?_
  rintro e w2 ⟨rfl, rfl⟩
  go_wp2_with fail
  refine (HPr.out _).mono ?_
  rintro e w2 ⟨rfl, rfl⟩
  go_wp2_with fail
  rw [HBE.out]
  refine (HN1.out _).mono ?_
  intro e w2 hr2
  obtain ⟨u, rfl, hu2, hb2'⟩ := hr2
  obtain ⟨ub, uc, ut, uy, us_, ⟨a1, m1, c1⟩, ⟨a2, m2, c2⟩, ⟨a3, m3, c3⟩, ⟨a4, m4, c4⟩, ⟨a5, m5, c5⟩⟩ := u
  have he := hu2
  obtain ⟨⟨e1, e2, e3, e4, e5⟩, ⟨l1, r1⟩, ⟨l2, r2⟩, ⟨l3, r3⟩, ⟨l4, r4⟩, ⟨l5, r5⟩⟩ := he
  clear r1 r2 r3 r4
  simp only [hnew, List.length_nil, List.length_replicate] at e1 e2 e3 e4 e5 l1 l2 l3 l4 l5
  subst e1 e2 e3 e4 e5 l1 l2 l3 l4 l5
  have HL := Lib.hid fun (W : World) => hlayout_any ⟨ub, uc, 0, false, 0, ⟨a1, 0, c1⟩, ⟨a2, 0, c2⟩, ⟨a3, 0, c3⟩, ⟨a4, 0, c4⟩, ⟨a5, r, c5⟩⟩ W
  have HRD2 := Lib.hid fun W a => HRD.out ⟨ub, uc, 0, false, 0, ⟨a1, 0, c1⟩, ⟨a2, 0, c2⟩, ⟨a3, 0, c3⟩, ⟨a4, 0, c4⟩, ⟨a5, r, c5⟩⟩ W a
  have HWR2 := Lib.hid fun W a => HWR.out ⟨ub, uc, 0, false, 0, ⟨a1, 0, c1⟩, ⟨a2, 0, c2⟩, ⟨a3, 0, c3⟩, ⟨a4, 0, c4⟩, ⟨a5, r, c5⟩⟩ W a
  have hg2 := HeapAt.lit w2 ⟨ub, uc, 0, false, 0, ⟨a1, 0, c1⟩, ⟨a2, 0, c2⟩, ⟨a3, 0, c3⟩, ⟨a4, 0, c4⟩, ⟨a5, r, c5⟩⟩ 50
  have hu3 := hu2.below (bl_alloc (bl_refl w2) (.cells (Hv.cells ⟨ub, uc, 0, false, 0, ⟨a1, 0, c1⟩, ⟨a2, 0, c2⟩, ⟨a3, 0, c3⟩, ⟨a4, 0, c4⟩, ⟨a5, r, c5⟩⟩) 50))
  have hbw3 := bl_alloc (bl_step hbw1 hb2') (.cells (Hv.cells ⟨ub, uc, 0, false, 0, ⟨a1, 0, c1⟩, ⟨a2, 0, c2⟩, ⟨a3, 0, c3⟩, ⟨a4, 0, c4⟩, ⟨a5, r, c5⟩⟩) 50)
  simp only [Hv.cells, Sl.v, Hv.lay, Lay.cells, hnew, Hp.lay, List.length_nil, Int.sub_zero, Int.natCast_zero] at HL HRD2 HWR2 HRM HRT hg2 hu3 hbw3 ⊢
  clear hu2 hb2' hbw1 HRD HWR
  go_wp2_with fail
  obtain ⟨W3, hW3⟩ : ∃ W, W = w2.alloc (.cells #[.int .u64 ub, .int .i64 uc, .int .i64 0, .bool false, .int .i64 0, .slice a1 0 c1, .slice a2 0 c2, .slice a3 0 c3, .slice a4 0 c4, .slice a5 r c5] 50) := ⟨_, rfl⟩
  rw [← hW3] at hg2 hu3 hbw3 ⊢
  obtain ⟨g, hg⟩ : ∃ g, g = w2.heap.size := ⟨_, rfl⟩
  rw [← hg] at hg2 ⊢
  clear hW3 hg r5 HPk HPr HN1 HOK
  obtain ⟨d0, d1, d2, d3, d4, d5, d6, d7, d8, d9⟩ := id hg2
  simp only at d0 d1 d2 d3 d4 d5 d6 d7 d8 d9
  refine (HL.out _).mono ?_
  intro e w4 hr
  obtain ⟨rfl, x, rfl⟩ := hr.later
  have zg : g < W3.heap.size := World.block_lt_of_cell? _ _ d0
  clear hr
  go_wp2_with fail
  refine (HRM.out _).mono ?_
  intro e w5 hr
  obtain ⟨rfl, hb⟩ := hr.both
  have hg5 := (hg2.below x.below).below hb
  have hu5 := (hu3.below x.below).below hb
  have hbw5 := bl_step (bl_step hbw3 x.below) hb
  clear hr hb hg2 hu3 hbw3 d0 d1 d2 d3 d4 d5 d6 d7 d8 d9 zg x
  obtain ⟨d0, d1, d2, d3, d4, d5, d6, d7, d8, d9⟩ := id hg5
  simp only at d0 d1 d2 d3 d4 d5 d6 d7 d8 d9
  go_wp2_with fail
  refine (HL.out _).mono ?_
  intro e w6 hr
  obtain ⟨rfl, hb⟩ := hr.both
  have hg6 := hg5.below hb
  have hu6 := hu5.below hb
  have hbw6 := bl_step hbw5 hb
  clear hr hb hg5 hu5 hbw5 d0 d1 d2 d3 d4 d5 d6 d7 d8 d9
  obtain ⟨d0, d1, d2, d3, d4, d5, d6, d7, d8, d9⟩ := id hg6
  simp only at d0 d1 d2 d3 d4 d5 d6 d7 d8 d9
  go_wp2_with fail
  refine (HRT.out _).mono ?_
  intro e w7 hr
  obtain ⟨rfl, hb⟩ := hr.both
  have hg7 := hg6.below hb
  have hu7 := hu6.below hb
  have hbw7 := bl_step hbw6 hb
  clear hr hb hg6 hu6 hbw6 d0 d1 d2 d3 d4 d5 d6 d7 d8 d9
  obtain ⟨d0, d1, d2, d3, d4, d5, d6, d7, d8, d9⟩ := id hg7
  simp only at d0 d1 d2 d3 d4 d5 d6 d7 d8 d9
  go_wp2_with fail
  go_loop [15] (fun i => HNRel r i) (fun i => r - (intOf i).toNat)
  case atStart => exact ⟨0, by omega, rfl⟩
  case round =>
    obtain ⟨j, hj, rfl⟩ := hrel
    by_cases hlt : j < r
    · obtain ⟨b', off, hA, hbl, hcell⟩ := (hu7.2.2.2.2.2.2.2.2).us_at (k := j) (by rw [List.length_replicate]; exact hlt)
      simp only at hA
      subst hA
      rw [List.getElem?_replicate_of_lt hlt, Option.getD_some, show ((0 : Nat) : Int) = 0 from rfl] at hcell
      go_wp2
      exact ⟨⟨j + 1, by omega, by go_num⟩, by simp [intOf]; omega⟩
    · obtain rfl : j = r := by omega
      go_wp2_with fail
      refine (HRD2.out _ hu7).mono ?_
      intro e w8 hr
      obtain ⟨rfl, hb⟩ := hr.both
      have hg8 := hg7.below hb
      have hu8 := hu7.below hb
      have hbw8 := bl_step hbw7 hb
      clear hr hb hg7 hu7 hbw7 d0 d1 d2 d3 d4 d5 d6 d7 d8 d9
      obtain ⟨d0, d1, d2, d3, d4, d5, d6, d7, d8, d9⟩ := id hg8
      simp only at d0 d1 d2 d3 d4 d5 d6 d7 d8 d9
      go_wp2_with fail
      refine (HWR2.out _ hu8).mono ?_
      intro e w9 hr
      obtain ⟨u2, rfl, _, hb⟩ := hr
      have hbw9 := bl_alloc (bl_step hbw8 hb) (.cells u2.cells 50)
      simp only [Hv.cells, Sl.v] at hbw9 ⊢
      clear d0 d1 d2 d3 d4 d5 d6 d7 d8 d9
      go_wp2_with fail
      refine (HN2.out _).mono ?_
      intro e w10 hr
      obtain ⟨u3, rfl, _, hb⟩ := hr
      have hbw10 := bl_alloc (bl_step hbw9 hb) (.cells u3.cells 50)
      simp only [Hv.cells, Sl.v] at hbw10 ⊢
      go_wp2_with fail
      refine (HN3.out _).mono ?_
      intro e w11 hr
      obtain ⟨u4, rfl, _, hb⟩ := hr
      have hbw11 := bl_alloc (bl_step hbw10 hb) (.cells u4.cells 50)
      simp only [Hv.cells, Sl.v] at hbw11 ⊢
      go_wp2
      go_ret
      exact ⟨rfl, hbw11⟩
end Go.Proofs.Ytappejihclmjmaa
