/-
  PlacesMoved: the walk of the law. Conditions: integers that fit.
-/
import Derived.Test.YtappejihclmjmaaPBack
import Derived.Test.YtappejihclmjmaaTail
import Derived.BigQuiet
import Derived.IntWalk
namespace Go.Proofs.Ytappejihclmjmaa
open Go.RowKit
attribute [local go_sem ↓] Go.wp_at_zero Go.wp_at_succ

/-- The layout with d words more room, at another base. -/
def Lay.mv (l : Lay) (b d : Int) : Lay := ⟨b, l.cap + d, l.to, l.low, l.high, l.old, l.far⟩
theorem LayAt.far {w : World} {g : Nat} {l : Lay} (h : LayAt w g l) {p : Addr} (hp : g ≠ p.block) (u : Value) : LayAt (w.setCell p u) g l := by
  obtain ⟨c0, c1, c2, c3, c4, c5, c6⟩ := h
  have e : ∀ i, (w.setCell p u).cell? ⟨g, i, none⟩ = w.cell? ⟨g, i, none⟩ := fun i => World.cell?_setCell_other w p ⟨g, i, none⟩ u (fun e => by subst e; exact hp rfl)
  exact ⟨(e 0).trans c0, (e 1).trans c1, (e 2).trans c2, (e 3).trans c3, (e 4).trans c4, (e 5).trans c5, (e 6).trans c6⟩

theorem mv_ok {l : Lay} {b d : Int} (h : l.Ok) (hc : l.cap ≤ 40) (hd : 0 ≤ d) (hd2 : d < 20) (hb : 1 ≤ b) (hb2 : b + 2 * (l.cap + d) ≤ 9223372036854775808) : (l.mv b d).Ok := by
  unfold Lay.Ok at h ⊢
  simp only [Lay.mv]
  omega
/-- How much farther from the base a place is: in words. -/
def grownI (tu p d : Int) : Int := (if p ≤ 2 then tu else 1 - tu) * d + (if p % 2 = 0 then d else 0)
theorem mv_far {l : Lay} {b d : Int} (h : l.Ok) (p : Int) (h1 : 1 ≤ p) (h4 : p ≤ 4) : (l.mv b d).at_ p.toNat - b = l.at_ p.toNat - l.base + grownI l.to p d := by
  have htu := h.2.2.2.2.1
  obtain rfl | rfl | rfl | rfl : p = 1 ∨ p = 2 ∨ p = 3 ∨ p = 4 := by omega
  all_goals
    rcases htu with hu | hu
    all_goals
      simp [Lay.at_, Lay.off, Lay.mv, grownI, hu]
      try omega

set_option maxRecDepth 100000 in
set_option maxHeartbeats 4000000 in
theorem pmoved_walk (b n0 n1 n2 n3 n4 n5 other more part at_ : Int) (w : World) (hb : 0 ≤ b ∧ b < 18446744073709551616) (g0 : -9223372036854775808 ≤ n0 ∧ n0 ≤ 9223372036854775807) (g1 : -9223372036854775808 ≤ n1 ∧ n1 ≤ 9223372036854775807) (g2 : -9223372036854775808 ≤ n2 ∧ n2 ≤ 9223372036854775807)
    (g3 : -9223372036854775808 ≤ n3 ∧ n3 ≤ 9223372036854775807) (g4 : -9223372036854775808 ≤ n4 ∧ n4 ≤ 9223372036854775807) (g5 : -9223372036854775808 ≤ n5 ∧ n5 ≤ 9223372036854775807) (hot : 0 ≤ other ∧ other < 18446744073709551616) (hmo : -9223372036854775808 ≤ more ∧ more ≤ 9223372036854775807) (hpa : -9223372036854775808 ≤ part ∧ part ≤ 9223372036854775807) (hat : -9223372036854775808 ≤ at_ ∧ at_ ≤ 9223372036854775807) :
    Calls Try.prog 7 #[.int .u64 b, .agg #[.int .i64 n0, .int .i64 n1, .int .i64 n2, .int .i64 n3, .int .i64 n4, .int .i64 n5], .int .u64 other, .int .i64 more, .int .i64 part, .int .i64 at_] w (RetTrue w) := by
  have HLY := Lib.hid fun W => layout_any b n0 n1 n2 n3 n4 n5 W hb g0 g1 g2 g3 g4 g5
  have hok := layOf_ok b n0 n1 n2 n3 n4 n5
  obtain ⟨l, hl⟩ : ∃ l, l = layOf b n0 n1 n2 n3 n4 n5 := ⟨_, rfl⟩
  rw [← hl] at HLY hok
  clear hl hb g0 g1 g2 g3 g4 g5
  obtain ⟨hok, hcap⟩ := hok
  have hdb := pickI_b more 20 (by omega)
  have HPD := Lib.hid fun W => pick_any more 20 W hmo.1 hmo.2 (by omega) (by omega)
  obtain ⟨d, hd⟩ : ∃ d, d = pickI more 20 := ⟨_, rfl⟩
  rw [← hd] at hdb HPD
  have hpb := pickI_b part 4 (by omega)
  have HPP := Lib.hid fun W => pick_any part 4 W hpa.1 hpa.2 (by omega) (by omega)
  obtain ⟨p0, hp0⟩ : ∃ d, d = pickI part 4 := ⟨_, rfl⟩
  rw [← hp0] at hpb HPP
  clear hd hp0 hmo hpa
  obtain ⟨hd0, hd1⟩ := hdb
  obtain ⟨hpb0, hpb1⟩ := hpb
  have hkc : 0 ≤ l.cap := hok.2.1
  have hm1 := Int.emod_nonneg other (show 9223372036854775808 - 2 * (l.cap + d) ≠ 0 by omega)
  have hm2 := Int.emod_lt_of_pos other (show 0 < 9223372036854775808 - 2 * (l.cap + d) by omega)
  obtain ⟨hot1, hot2⟩ := hot
  have hmok := mv_ok (b := 1 + other % (9223372036854775808 - 2 * (l.cap + d))) hok hcap hd0 hd1 (by omega) (by omega)
  have HMB := Lib.hid (show ∃ mb, mb = 1 + other % (9223372036854775808 - 2 * (l.cap + d)) from ⟨_, rfl⟩)
  have HMOK := Lib.hid hmok
  clear hmok hkc
  have HOK0 := Lib.hid hok
  have k1 : 1 ≤ l.base := hok.1
  have k2 : 0 ≤ l.cap := hok.2.1
  have k4 : l.base + 2 * l.cap ≤ 9223372036854775808 := hok.2.2.2.1
  have k4' : l.base ≤ 9223372036854775808 - 2 * l.cap := by omega
  have kl : 0 ≤ l.low ∧ l.low ≤ 40 ∧ 0 ≤ l.high ∧ l.high ≤ 40 ∧ 0 ≤ l.old ∧ l.old ≤ 40 ∧ 0 ≤ l.far ∧ l.far ≤ 40 ∧ l.low + l.high ≤ l.cap ∧ l.old + l.far ≤ l.cap := by
    obtain ⟨_, _, _, _, _, a, b, c, d, e, f⟩ := hok
    omega
  obtain ⟨kl1, kl2, kl3, kl4, kl5, kl6, kl7, kl8, kl9, kl10⟩ := kl
  have HOK := Lib.hid hok
  clear hok
  simp only [Lay.cells] at HLY
  go_enter Try.func7, Try.ntmps7
  go_wp2_with fail
  refine (awake7_any _).mono ?_
  intro e w1 hr
  obtain ⟨rfl, x, rfl⟩ := hr.later
  have hbx : Below w.heap.size w x.w := bl_step (bl_alloc (bl_refl w) _) x.below
  go_wp2_with fail
  refine (HLY.out _).mono ?_
  intro e w2 hr2
  obtain ⟨rfl, hb2⟩ := hr2.both
  have hbw2 := bl_step hbx hb2
  have hl := LayAt.lit w2 l 24
  have hbw3 : Below w.heap.size w (w2.alloc (.cells l.cells 24)) := bl_alloc hbw2 _
  have hw2 : w.heap.size ≤ w2.heap.size := hbw2.size
  simp only [Lay.cells] at hl hbw3
  have hl4 := hl.alloc (.cells #[.int .u64 l.base, .int .i64 l.cap, .int .i64 l.to, .int .i64 l.low, .int .i64 l.high, .int .i64 l.old, .int .i64 l.far] 24)
  have hm4 := LayAt.lit (w2.alloc (.cells #[.int .u64 l.base, .int .i64 l.cap, .int .i64 l.to, .int .i64 l.low, .int .i64 l.high, .int .i64 l.old, .int .i64 l.far] 24)) l 24
  have hbw4 := bl_alloc hbw3 (.cells #[.int .u64 l.base, .int .i64 l.cap, .int .i64 l.to, .int .i64 l.low, .int .i64 l.high, .int .i64 l.old, .int .i64 l.far] 24)
  have hk4 : ((w2.alloc (.cells #[.int .u64 l.base, .int .i64 l.cap, .int .i64 l.to, .int .i64 l.low, .int .i64 l.high, .int .i64 l.old, .int .i64 l.far] 24)).alloc (.cells #[.int .u64 l.base, .int .i64 l.cap, .int .i64 l.to, .int .i64 l.low, .int .i64 l.high, .int .i64 l.old, .int .i64 l.far] 24)).heap[w2.heap.size + 1]? = some (.cells #[.int .u64 l.base, .int .i64 l.cap, .int .i64 l.to, .int .i64 l.low, .int .i64 l.high, .int .i64 l.old, .int .i64 l.far] 24 (0, 0)) := by
    rw [show w2.heap.size + 1 = (w2.alloc (.cells #[.int .u64 l.base, .int .i64 l.cap, .int .i64 l.to, .int .i64 l.low, .int .i64 l.high, .int .i64 l.old, .int .i64 l.far] 24)).heap.size by simp]
    exact heap_alloc_new _ _
  simp only [Lay.cells] at hm4
  clear hr hr2 hb2 hbx hbw2 x HLY hl hbw3
  go_wp2_with fail
  obtain ⟨W4, hW4⟩ : ∃ W4, W4 = (w2.alloc (.cells #[.int .u64 l.base, .int .i64 l.cap, .int .i64 l.to, .int .i64 l.low, .int .i64 l.high, .int .i64 l.old, .int .i64 l.far] 24)).alloc (.cells #[.int .u64 l.base, .int .i64 l.cap, .int .i64 l.to, .int .i64 l.low, .int .i64 l.high, .int .i64 l.old, .int .i64 l.far] 24) := ⟨_, rfl⟩
  rw [← hW4] at hl4 hm4 hbw4 hk4 ⊢
  rw [show (w2.alloc (.cells #[.int .u64 l.base, .int .i64 l.cap, .int .i64 l.to, .int .i64 l.low, .int .i64 l.high, .int .i64 l.old, .int .i64 l.far] 24)).heap.size = w2.heap.size + 1 by simp] at hm4
  clear hW4
  obtain ⟨g, hg⟩ : ∃ g, g = w2.heap.size := ⟨_, rfl⟩
  rw [← hg] at hl4 hm4 hk4 ⊢
  have hwg : w.heap.size ≤ g := by rw [hg]; exact hw2
  clear hg hw2
  obtain ⟨c0, c1, c2, c3, c4, c5, c6⟩ := id hl4
  have z0 := World.block_lt_of_cell? _ _ c0
  refine wp_region_later_tail 6 (by kernel_rfl) (by kernel_rfl) ?_
  simp only [List.take_succ_cons, List.take_zero, List.drop_succ_cons, List.drop_zero]
  repeat (go_big_quiet_step ((with_reducible exact later_same (HPD.out _))))
  refine wpQuiet_nil ?_
  intro _ hw'
  obtain ⟨y, hw''⟩ := hw'
  subst hw''
  clear c0 c1 c2 c3 c4 c5 c6
  have hl5 := hl4.below y.below
  have hm5 := hm4.below y.below
  have hbw5 := bl_step hbw4 y.below
  have hk5 : y.w.heap[g + 1]? = some (.cells #[.int .u64 l.base, .int .i64 l.cap, .int .i64 l.to, .int .i64 l.low, .int .i64 l.high, .int .i64 l.old, .int .i64 l.far] 24 (0, 0)) := (y.below.block (g + 1) (lt_of_heap hk4)).trans hk4
  revert hl5 hm5 hbw5 hk5
  obtain ⟨w5, hw5⟩ : ∃ w5, w5 = y.w := ⟨_, rfl⟩
  rw [← hw5]
  intro hl5 hm5 hbw5 hk5
  clear hw5 y hl4 hm4 hbw4 hk4 z0
  obtain ⟨d0, d1, d2, d3, d4, d5, d6⟩ := id hm5
  have hfz := fun i => blk_frozen hk5 i
  go_wp2_with fail
  refine (HPP.out _).mono ?_
  rintro e w6 ⟨rfl, hw6⟩
  have hk6 := blk_set (blk_set hk5 1 (.int .i64 (l.cap + d))) 0 (.int .u64 (1 + other % (9223372036854775808 - 2 * (l.cap + d))))
  have hbw6 := (hbw5.setCell (p := ⟨g + 1, 1, none⟩) (Nat.le_succ_of_le hwg) (.int .i64 (l.cap + d))).setCell (p := ⟨g + 1, 0, none⟩) (Nat.le_succ_of_le hwg) (.int .u64 (1 + other % (9223372036854775808 - 2 * (l.cap + d))))
  have hl6 := (hl5.far (p := ⟨g + 1, 1, none⟩) (by simp) (.int .i64 (l.cap + d))).far (p := ⟨g + 1, 0, none⟩) (by simp) (.int .u64 (1 + other % (9223372036854775808 - 2 * (l.cap + d))))
  simp only [List.setIfInBounds_toArray, List.set_cons_zero, List.set_cons_succ] at hk6
  rw [hw6] at hk6 hbw6 hl6
  clear hw6 hk5 hbw5 hl5 hm5 d0 d1 d2 d3 d4 d5 d6 hfz
  obtain ⟨mb, hmb⟩ : ∃ mb, mb = 1 + other % (9223372036854775808 - 2 * (l.cap + d)) := ⟨_, rfl⟩
  have hmok := HMOK.out
  rw [← hmb] at hk6 hmok
  have hmb1 : 1 ≤ mb := by omega
  have hmb2 : mb + 2 * (l.cap + d) ≤ 9223372036854775808 := by omega
  have HMI := Lib.hid fun p i W a b c e => address_in (l.mv mb d) p i W hmok a b c e
  have HRT := Lib.hid fun W => right_yes (l.mv mb d) W (ok_wf hmok) hmok
  have HAI := Lib.hid fun p i W a b c e => address_in l p i W HOK.out a b c e
  have HAO := Lib.hid fun p i W a b c => address_out l p i W HOK.out a b c
  have HAB := Lib.hid fun p a b => at_b l HOK.out p a b
  have HMA := Lib.hid fun p a b => at_b (l.mv mb d) hmok p a b
  have HFAR := Lib.hid fun p a b => mv_far (b := mb) (d := d) HOK.out p a b
  have hms : LayAt w6 (g + 1) (l.mv mb d) := ⟨blk_cell hk6 0, blk_cell hk6 1, blk_cell hk6 2, blk_cell hk6 3, blk_cell hk6 4, blk_cell hk6 5, blk_cell hk6 6⟩
  simp only [Lay.cells, Lay.mv] at HMI HRT HAI HAO hms
  have htu := (HOK.out).2.2.2.2.1
  have HG : ∃ G1 G2 : Int, 0 ≤ G1 ∧ G1 ≤ 19 ∧ 0 ≤ G2 ∧ G2 ≤ 19 ∧ l.to * d = G1 ∧ (1 - l.to) * d = G2 := by
    rcases htu with hu | hu
    · exact ⟨0, d, by omega, by omega, by omega, by omega, by rw [hu]; omega, by rw [hu]; omega⟩
    · exact ⟨d, 0, by omega, by omega, by omega, by omega, by rw [hu]; omega, by rw [hu]; omega⟩
  obtain ⟨G1, G2, hG1, hG2, hG3, hG4, hG5, hG6⟩ := HG
  have ht0 : 0 ≤ l.to := by omega
  have ht1 : l.to ≤ 1 := by omega
  have ew1 : IntKind.i64.wrap (l.to * (l.cap + d - l.cap)) = G1 := by rw [show l.cap + d - l.cap = d by omega, hG5]; exact IntWalk.i64_in _ (by omega)
  have ew2 : IntKind.i64.wrap ((1 - l.to) * (l.cap + d - l.cap)) = G2 := by rw [show l.cap + d - l.cap = d by omega, hG6]; exact IntWalk.i64_in _ (by omega)
  have ew3 : IntKind.i64.wrap (l.to * d) = G1 := by rw [hG5]; exact IntWalk.i64_in _ (by omega)
  have ew4 : IntKind.i64.wrap ((1 - l.to) * d) = G2 := by rw [hG6]; exact IntWalk.i64_in _ (by omega)
  have HG5 := Lib.hid hG5
  have HG6 := Lib.hid hG6
  have EW1 := Lib.hid ew1
  have EW2 := Lib.hid ew2
  have EW3 := Lib.hid ew3
  have EW4 := Lib.hid ew4
  have hzz := lt_of_heap hk6
  clear hG5 hG6 htu hmb hmok HMOK HMB hk6 HPP HPD HOK0 hot1 hot2 hm1 hm2 ew1 ew2 ew3 ew4
  obtain ⟨c0, c1, c2, c3, c4, c5, c6⟩ := id hl6
  obtain ⟨d0, d1, d2, d3, d4, d5, d6⟩ := id hms
  simp only at d0 d1 d2 d3 d4 d5 d6
  have hzc := World.block_lt_of_cell? w6 _ c0
  obtain rfl | rfl | rfl | rfl : p0 = 0 ∨ p0 = 1 ∨ p0 = 2 ∨ p0 = 3 := by omega
  · have hab := HAB.out 1 (by omega) (by omega)
    have hma := HMA.out 1 (by omega) (by omega)
    have hfar := HFAR.out 1 (by omega) (by omega)
    rw [show grownI l.to 1 d = G1 by simp only [grownI]; simp [HG5.out], show (1 : Int).toNat = 1 from rfl] at hfar
    have hA := fun i W a b => HAI.out 1 i W (by omega) (by omega) a b
    have hM := fun i W a b => HMI.out 1 i W (by omega) (by omega) a b
    rw [show (1 : Int).toNat = 1 from rfl] at hA hM
    obtain ⟨A, hAe⟩ : ∃ A, A = l.at_ 1 := ⟨_, rfl⟩
    obtain ⟨B, hBe⟩ : ∃ B, B = (l.mv mb d).at_ 1 := ⟨_, rfl⟩
    rw [← hAe] at hab hfar hA
    rw [← hBe] at hma hfar
    simp only [Lay.mv] at hBe
    rw [← hBe] at hM
    have hab' : 1 ≤ A ∧ A + l.low ≤ 9223372036854775808 := ⟨hab.1, hab.2.1⟩
    have hma' : 1 ≤ B ∧ B + l.low ≤ 9223372036854775808 := ⟨hma.1, hma.2.1⟩
    have HO := HOK.out
    have hAb : l.base ≤ A := by rw [hAe]; unfold Lay.at_; have := off_in l HO 1 (by omega) (by omega); omega
    have hBb : mb ≤ B := by have := hfar; omega
    obtain ⟨ha1, ha2⟩ := hab'
    obtain ⟨hm1, hm2⟩ := hma'
    have HFARK := Lib.hid hfar
    have HAK := Lib.hid hA
    have HMK := Lib.hid hM
    clear hab hma hfar hA hM hAe hBe HO
    by_cases hz : l.low = 0
    · have HX := Lib.hid fun W => HAO.out 1 0 W (by omega) (by omega) (.inr (.inr (.inr (show l.low ≤ 0 by omega))))
      have hz' : (l.low == 0) = true := beq_iff_eq.2 hz
      clear hz
      go_wp2_with fail
      refine (HX.out _).mono ?_
      intro e w8 hr
      obtain ⟨rfl, hb8⟩ := hr.both
      go_wp2
      go_ret
      exact ⟨rfl, bl_step (bl_alloc (bl_alloc hbw6 _) _) hb8⟩
    · have hz' : (l.low == 0) = false := beq_eq_false_iff_ne.2 hz
      have HPA := Lib.hid fun W => pick_any at_ (l.low) W hat.1 hat.2 (by omega) (by omega)
      have hkb := pickI_b at_ (l.low) (by omega)
      obtain ⟨I, hI⟩ : ∃ I, I = pickI at_ (l.low) := ⟨_, rfl⟩
      rw [← hI] at HPA hkb
      obtain ⟨hI0, hI1⟩ := hkb
      clear hI hz
      have HX := Lib.hid fun W => HAK.out I W hI0 hI1
      have HY := Lib.hid fun W => HMK.out I W hI0 hI1
      go_wp2_with fail
      refine (HPA.out _).mono ?_
      rintro e w7 ⟨rfl, rfl⟩
      go_wp2_with fail
      refine (HX.out _).mono ?_
      intro e w8 hr
      obtain ⟨rfl, hb8⟩ := hr.both
      have hl8 := ((hl6.alloc _).alloc _).below hb8
      have hm8 := ((hms.alloc _).alloc _).below hb8
      have hp8 := ((TwoAt.lit w6 (.int .i64 1) (.int .i64 I) 27).alloc _).below hb8
      have hbw8 := bl_step (bl_alloc (bl_alloc hbw6 _) _) hb8
      clear c0 c1 c2 c3 c4 c5 c6 d0 d1 d2 d3 d4 d5 d6
      obtain ⟨d0, d1, d2, d3, d4, d5, d6⟩ := id hm8
      obtain ⟨q0, q1⟩ := id hp8
      simp only at d0 d1 d2 d3 d4 d5 d6
      go_wp2_with fail
      refine (HY.out _).mono ?_
      intro e w9 hr9
      obtain ⟨rfl, hb9⟩ := hr9.both
      have hl9 := hl8.below hb9
      have hm9 := hm8.below hb9
      have hp9 := hp8.below hb9
      have hbw9 := bl_step hbw8 hb9
      clear d0 d1 d2 d3 d4 d5 d6 q0 q1 hl8 hm8 hp8 hbw8 hb8 hb9 hr hr9
      obtain ⟨c0, c1, c2, c3, c4, c5, c6⟩ := id hl9
      obtain ⟨d0, d1, d2, d3, d4, d5, d6⟩ := id hm9
      obtain ⟨q0, q1⟩ := id hp9
      simp only at d0 d1 d2 d3 d4 d5 d6
      have ew1 := EW1.out
      have ew2 := EW2.out
      have ew3 := EW3.out
      have ew4 := EW4.out
      go_wp2_with fail
      refine (HRT.out _).mono ?_
      intro e w10 hr10
      obtain ⟨rfl, hb10⟩ := hr10.both
      have hl10 := hl9.below hb10
      have hm10 := hm9.below hb10
      have hbw10 := bl_step hbw9 hb10
      clear c0 c1 c2 c3 c4 c5 c6 d0 d1 d2 d3 d4 d5 d6 q0 q1 hl9 hm9 hp9 hbw9 hb10 hr10 ew1 ew2 ew3 ew4
      obtain ⟨c0, c1, c2, c3, c4, c5, c6⟩ := id hl10
      obtain ⟨d0, d1, d2, d3, d4, d5, d6⟩ := id hm10
      simp only at d0 d1 d2 d3 d4 d5 d6
      go_wp2
      go_ret
      refine ⟨?_, hbw10⟩
      have hfar := HFARK.out
      simp
      omega
  · have hab := HAB.out 2 (by omega) (by omega)
    have hma := HMA.out 2 (by omega) (by omega)
    have hfar := HFAR.out 2 (by omega) (by omega)
    rw [show grownI l.to 2 d = G1 + d by simp only [grownI]; simp [HG5.out], show (2 : Int).toNat = 2 from rfl] at hfar
    have hA := fun i W a b => HAI.out 2 i W (by omega) (by omega) a b
    have hM := fun i W a b => HMI.out 2 i W (by omega) (by omega) a b
    rw [show (2 : Int).toNat = 2 from rfl] at hA hM
    obtain ⟨A, hAe⟩ : ∃ A, A = l.at_ 2 := ⟨_, rfl⟩
    obtain ⟨B, hBe⟩ : ∃ B, B = (l.mv mb d).at_ 2 := ⟨_, rfl⟩
    rw [← hAe] at hab hfar hA
    rw [← hBe] at hma hfar
    simp only [Lay.mv] at hBe
    rw [← hBe] at hM
    have hab' : 1 ≤ A ∧ A + l.high ≤ 9223372036854775808 := ⟨hab.1, hab.2.1⟩
    have hma' : 1 ≤ B ∧ B + l.high ≤ 9223372036854775808 := ⟨hma.1, hma.2.1⟩
    have HO := HOK.out
    have hAb : l.base ≤ A := by rw [hAe]; unfold Lay.at_; have := off_in l HO 2 (by omega) (by omega); omega
    have hBb : mb ≤ B := by have := hfar; omega
    obtain ⟨ha1, ha2⟩ := hab'
    obtain ⟨hm1, hm2⟩ := hma'
    have HFARK := Lib.hid hfar
    have HAK := Lib.hid hA
    have HMK := Lib.hid hM
    clear hab hma hfar hA hM hAe hBe HO
    by_cases hz : l.high = 0
    · have HX := Lib.hid fun W => HAO.out 2 0 W (by omega) (by omega) (.inr (.inr (.inr (show l.high ≤ 0 by omega))))
      have hz' : (l.high == 0) = true := beq_iff_eq.2 hz
      clear hz
      go_wp2_with fail
      refine (HX.out _).mono ?_
      intro e w8 hr
      obtain ⟨rfl, hb8⟩ := hr.both
      go_wp2
      go_ret
      exact ⟨rfl, bl_step (bl_alloc (bl_alloc hbw6 _) _) hb8⟩
    · have hz' : (l.high == 0) = false := beq_eq_false_iff_ne.2 hz
      have HPA := Lib.hid fun W => pick_any at_ (l.high) W hat.1 hat.2 (by omega) (by omega)
      have hkb := pickI_b at_ (l.high) (by omega)
      obtain ⟨I, hI⟩ : ∃ I, I = pickI at_ (l.high) := ⟨_, rfl⟩
      rw [← hI] at HPA hkb
      obtain ⟨hI0, hI1⟩ := hkb
      clear hI hz
      have HX := Lib.hid fun W => HAK.out I W hI0 hI1
      have HY := Lib.hid fun W => HMK.out I W hI0 hI1
      go_wp2_with fail
      refine (HPA.out _).mono ?_
      rintro e w7 ⟨rfl, rfl⟩
      go_wp2_with fail
      refine (HX.out _).mono ?_
      intro e w8 hr
      obtain ⟨rfl, hb8⟩ := hr.both
      have hl8 := ((hl6.alloc _).alloc _).below hb8
      have hm8 := ((hms.alloc _).alloc _).below hb8
      have hp8 := ((TwoAt.lit w6 (.int .i64 2) (.int .i64 I) 27).alloc _).below hb8
      have hbw8 := bl_step (bl_alloc (bl_alloc hbw6 _) _) hb8
      clear c0 c1 c2 c3 c4 c5 c6 d0 d1 d2 d3 d4 d5 d6
      obtain ⟨d0, d1, d2, d3, d4, d5, d6⟩ := id hm8
      obtain ⟨q0, q1⟩ := id hp8
      simp only at d0 d1 d2 d3 d4 d5 d6
      go_wp2_with fail
      refine (HY.out _).mono ?_
      intro e w9 hr9
      obtain ⟨rfl, hb9⟩ := hr9.both
      have hl9 := hl8.below hb9
      have hm9 := hm8.below hb9
      have hp9 := hp8.below hb9
      have hbw9 := bl_step hbw8 hb9
      clear d0 d1 d2 d3 d4 d5 d6 q0 q1 hl8 hm8 hp8 hbw8 hb8 hb9 hr hr9
      obtain ⟨c0, c1, c2, c3, c4, c5, c6⟩ := id hl9
      obtain ⟨d0, d1, d2, d3, d4, d5, d6⟩ := id hm9
      obtain ⟨q0, q1⟩ := id hp9
      simp only at d0 d1 d2 d3 d4 d5 d6
      have ew1 := EW1.out
      have ew2 := EW2.out
      have ew3 := EW3.out
      have ew4 := EW4.out
      go_wp2_with fail
      refine (HRT.out _).mono ?_
      intro e w10 hr10
      obtain ⟨rfl, hb10⟩ := hr10.both
      have hl10 := hl9.below hb10
      have hm10 := hm9.below hb10
      have hbw10 := bl_step hbw9 hb10
      clear c0 c1 c2 c3 c4 c5 c6 d0 d1 d2 d3 d4 d5 d6 q0 q1 hl9 hm9 hp9 hbw9 hb10 hr10 ew1 ew2 ew3 ew4
      obtain ⟨c0, c1, c2, c3, c4, c5, c6⟩ := id hl10
      obtain ⟨d0, d1, d2, d3, d4, d5, d6⟩ := id hm10
      simp only at d0 d1 d2 d3 d4 d5 d6
      go_wp2
      go_ret
      refine ⟨?_, hbw10⟩
      have hfar := HFARK.out
      simp
      omega
  · have hab := HAB.out 3 (by omega) (by omega)
    have hma := HMA.out 3 (by omega) (by omega)
    have hfar := HFAR.out 3 (by omega) (by omega)
    rw [show grownI l.to 3 d = G2 by simp only [grownI]; simp [HG6.out], show (3 : Int).toNat = 3 from rfl] at hfar
    have hA := fun i W a b => HAI.out 3 i W (by omega) (by omega) a b
    have hM := fun i W a b => HMI.out 3 i W (by omega) (by omega) a b
    rw [show (3 : Int).toNat = 3 from rfl] at hA hM
    obtain ⟨A, hAe⟩ : ∃ A, A = l.at_ 3 := ⟨_, rfl⟩
    obtain ⟨B, hBe⟩ : ∃ B, B = (l.mv mb d).at_ 3 := ⟨_, rfl⟩
    rw [← hAe] at hab hfar hA
    rw [← hBe] at hma hfar
    simp only [Lay.mv] at hBe
    rw [← hBe] at hM
    have hab' : 1 ≤ A ∧ A + l.old ≤ 9223372036854775808 := ⟨hab.1, hab.2.1⟩
    have hma' : 1 ≤ B ∧ B + l.old ≤ 9223372036854775808 := ⟨hma.1, hma.2.1⟩
    have HO := HOK.out
    have hAb : l.base ≤ A := by rw [hAe]; unfold Lay.at_; have := off_in l HO 3 (by omega) (by omega); omega
    have hBb : mb ≤ B := by have := hfar; omega
    obtain ⟨ha1, ha2⟩ := hab'
    obtain ⟨hm1, hm2⟩ := hma'
    have HFARK := Lib.hid hfar
    have HAK := Lib.hid hA
    have HMK := Lib.hid hM
    clear hab hma hfar hA hM hAe hBe HO
    by_cases hz : l.old = 0
    · have HX := Lib.hid fun W => HAO.out 3 0 W (by omega) (by omega) (.inr (.inr (.inr (show l.old ≤ 0 by omega))))
      have hz' : (l.old == 0) = true := beq_iff_eq.2 hz
      clear hz
      go_wp2_with fail
      refine (HX.out _).mono ?_
      intro e w8 hr
      obtain ⟨rfl, hb8⟩ := hr.both
      go_wp2
      go_ret
      exact ⟨rfl, bl_step (bl_alloc (bl_alloc hbw6 _) _) hb8⟩
    · have hz' : (l.old == 0) = false := beq_eq_false_iff_ne.2 hz
      have HPA := Lib.hid fun W => pick_any at_ (l.old) W hat.1 hat.2 (by omega) (by omega)
      have hkb := pickI_b at_ (l.old) (by omega)
      obtain ⟨I, hI⟩ : ∃ I, I = pickI at_ (l.old) := ⟨_, rfl⟩
      rw [← hI] at HPA hkb
      obtain ⟨hI0, hI1⟩ := hkb
      clear hI hz
      have HX := Lib.hid fun W => HAK.out I W hI0 hI1
      have HY := Lib.hid fun W => HMK.out I W hI0 hI1
      go_wp2_with fail
      refine (HPA.out _).mono ?_
      rintro e w7 ⟨rfl, rfl⟩
      go_wp2_with fail
      refine (HX.out _).mono ?_
      intro e w8 hr
      obtain ⟨rfl, hb8⟩ := hr.both
      have hl8 := ((hl6.alloc _).alloc _).below hb8
      have hm8 := ((hms.alloc _).alloc _).below hb8
      have hp8 := ((TwoAt.lit w6 (.int .i64 3) (.int .i64 I) 27).alloc _).below hb8
      have hbw8 := bl_step (bl_alloc (bl_alloc hbw6 _) _) hb8
      clear c0 c1 c2 c3 c4 c5 c6 d0 d1 d2 d3 d4 d5 d6
      obtain ⟨d0, d1, d2, d3, d4, d5, d6⟩ := id hm8
      obtain ⟨q0, q1⟩ := id hp8
      simp only at d0 d1 d2 d3 d4 d5 d6
      go_wp2_with fail
      refine (HY.out _).mono ?_
      intro e w9 hr9
      obtain ⟨rfl, hb9⟩ := hr9.both
      have hl9 := hl8.below hb9
      have hm9 := hm8.below hb9
      have hp9 := hp8.below hb9
      have hbw9 := bl_step hbw8 hb9
      clear d0 d1 d2 d3 d4 d5 d6 q0 q1 hl8 hm8 hp8 hbw8 hb8 hb9 hr hr9
      obtain ⟨c0, c1, c2, c3, c4, c5, c6⟩ := id hl9
      obtain ⟨d0, d1, d2, d3, d4, d5, d6⟩ := id hm9
      obtain ⟨q0, q1⟩ := id hp9
      simp only at d0 d1 d2 d3 d4 d5 d6
      have ew1 := EW1.out
      have ew2 := EW2.out
      have ew3 := EW3.out
      have ew4 := EW4.out
      go_wp2_with fail
      refine (HRT.out _).mono ?_
      intro e w10 hr10
      obtain ⟨rfl, hb10⟩ := hr10.both
      have hl10 := hl9.below hb10
      have hm10 := hm9.below hb10
      have hbw10 := bl_step hbw9 hb10
      clear c0 c1 c2 c3 c4 c5 c6 d0 d1 d2 d3 d4 d5 d6 q0 q1 hl9 hm9 hp9 hbw9 hb10 hr10 ew1 ew2 ew3 ew4
      obtain ⟨c0, c1, c2, c3, c4, c5, c6⟩ := id hl10
      obtain ⟨d0, d1, d2, d3, d4, d5, d6⟩ := id hm10
      simp only at d0 d1 d2 d3 d4 d5 d6
      go_wp2
      go_ret
      refine ⟨?_, hbw10⟩
      have hfar := HFARK.out
      simp
      omega
  · have hab := HAB.out 4 (by omega) (by omega)
    have hma := HMA.out 4 (by omega) (by omega)
    have hfar := HFAR.out 4 (by omega) (by omega)
    rw [show grownI l.to 4 d = G2 + d by simp only [grownI]; simp [HG6.out], show (4 : Int).toNat = 4 from rfl] at hfar
    have hA := fun i W a b => HAI.out 4 i W (by omega) (by omega) a b
    have hM := fun i W a b => HMI.out 4 i W (by omega) (by omega) a b
    rw [show (4 : Int).toNat = 4 from rfl] at hA hM
    obtain ⟨A, hAe⟩ : ∃ A, A = l.at_ 4 := ⟨_, rfl⟩
    obtain ⟨B, hBe⟩ : ∃ B, B = (l.mv mb d).at_ 4 := ⟨_, rfl⟩
    rw [← hAe] at hab hfar hA
    rw [← hBe] at hma hfar
    simp only [Lay.mv] at hBe
    rw [← hBe] at hM
    have hab' : 1 ≤ A ∧ A + l.far ≤ 9223372036854775808 := ⟨hab.1, hab.2.1⟩
    have hma' : 1 ≤ B ∧ B + l.far ≤ 9223372036854775808 := ⟨hma.1, hma.2.1⟩
    have HO := HOK.out
    have hAb : l.base ≤ A := by rw [hAe]; unfold Lay.at_; have := off_in l HO 4 (by omega) (by omega); omega
    have hBb : mb ≤ B := by have := hfar; omega
    obtain ⟨ha1, ha2⟩ := hab'
    obtain ⟨hm1, hm2⟩ := hma'
    have HFARK := Lib.hid hfar
    have HAK := Lib.hid hA
    have HMK := Lib.hid hM
    clear hab hma hfar hA hM hAe hBe HO
    by_cases hz : l.far = 0
    · have HX := Lib.hid fun W => HAO.out 4 0 W (by omega) (by omega) (.inr (.inr (.inr (show l.far ≤ 0 by omega))))
      have hz' : (l.far == 0) = true := beq_iff_eq.2 hz
      clear hz
      go_wp2_with fail
      refine (HX.out _).mono ?_
      intro e w8 hr
      obtain ⟨rfl, hb8⟩ := hr.both
      go_wp2
      go_ret
      exact ⟨rfl, bl_step (bl_alloc (bl_alloc hbw6 _) _) hb8⟩
    · have hz' : (l.far == 0) = false := beq_eq_false_iff_ne.2 hz
      have HPA := Lib.hid fun W => pick_any at_ (l.far) W hat.1 hat.2 (by omega) (by omega)
      have hkb := pickI_b at_ (l.far) (by omega)
      obtain ⟨I, hI⟩ : ∃ I, I = pickI at_ (l.far) := ⟨_, rfl⟩
      rw [← hI] at HPA hkb
      obtain ⟨hI0, hI1⟩ := hkb
      clear hI hz
      have HX := Lib.hid fun W => HAK.out I W hI0 hI1
      have HY := Lib.hid fun W => HMK.out I W hI0 hI1
      go_wp2_with fail
      refine (HPA.out _).mono ?_
      rintro e w7 ⟨rfl, rfl⟩
      go_wp2_with fail
      refine (HX.out _).mono ?_
      intro e w8 hr
      obtain ⟨rfl, hb8⟩ := hr.both
      have hl8 := ((hl6.alloc _).alloc _).below hb8
      have hm8 := ((hms.alloc _).alloc _).below hb8
      have hp8 := ((TwoAt.lit w6 (.int .i64 4) (.int .i64 I) 27).alloc _).below hb8
      have hbw8 := bl_step (bl_alloc (bl_alloc hbw6 _) _) hb8
      clear c0 c1 c2 c3 c4 c5 c6 d0 d1 d2 d3 d4 d5 d6
      obtain ⟨d0, d1, d2, d3, d4, d5, d6⟩ := id hm8
      obtain ⟨q0, q1⟩ := id hp8
      simp only at d0 d1 d2 d3 d4 d5 d6
      go_wp2_with fail
      refine (HY.out _).mono ?_
      intro e w9 hr9
      obtain ⟨rfl, hb9⟩ := hr9.both
      have hl9 := hl8.below hb9
      have hm9 := hm8.below hb9
      have hp9 := hp8.below hb9
      have hbw9 := bl_step hbw8 hb9
      clear d0 d1 d2 d3 d4 d5 d6 q0 q1 hl8 hm8 hp8 hbw8 hb8 hb9 hr hr9
      obtain ⟨c0, c1, c2, c3, c4, c5, c6⟩ := id hl9
      obtain ⟨d0, d1, d2, d3, d4, d5, d6⟩ := id hm9
      obtain ⟨q0, q1⟩ := id hp9
      simp only at d0 d1 d2 d3 d4 d5 d6
      have ew1 := EW1.out
      have ew2 := EW2.out
      have ew3 := EW3.out
      have ew4 := EW4.out
      go_wp2_with fail
      refine (HRT.out _).mono ?_
      intro e w10 hr10
      obtain ⟨rfl, hb10⟩ := hr10.both
      have hl10 := hl9.below hb10
      have hm10 := hm9.below hb10
      have hbw10 := bl_step hbw9 hb10
      clear c0 c1 c2 c3 c4 c5 c6 d0 d1 d2 d3 d4 d5 d6 q0 q1 hl9 hm9 hp9 hbw9 hb10 hr10 ew1 ew2 ew3 ew4
      obtain ⟨c0, c1, c2, c3, c4, c5, c6⟩ := id hl10
      obtain ⟨d0, d1, d2, d3, d4, d5, d6⟩ := id hm10
      simp only at d0 d1 d2 d3 d4 d5 d6
      go_wp2
      go_ret
      refine ⟨?_, hbw10⟩
      have hfar := HFARK.out
      simp
      omega
end Go.Proofs.Ytappejihclmjmaa
