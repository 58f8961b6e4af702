/-
  PlacesFlip: the walk of the law. Conditions: integers that fit.
-/
import Derived.Test.YtappejihclmjmaaPBack
import Derived.BigQuiet
import Derived.IntWalk
namespace Go.Proofs.Ytappejihclmjmaa
open Go.RowKit

/-- The layout, flipped. -/
def Lay.fl (l : Lay) : Lay := ⟨l.base, l.cap, 1 - l.to, 0, 0, l.low, l.high⟩
theorem fl_ok {l : Lay} (h : l.Ok) : l.fl.Ok := by
  unfold Lay.Ok at h ⊢
  simp only [Lay.fl]
  omega
theorem fl_flip (l : Lay) (W : World) (h : l.Ok) : Calls Try.prog 18 #[.agg l.cells] W (RetB (.tuple #[.agg l.fl.cells, .int .i64 0]) W) := by
  have := flip_any l W (ok_wf h)
  rw [flipL, okE, if_pos h, if_pos h] at this
  exact this
theorem fl_back (l : Lay) (W : World) (h : l.Ok) : Calls Try.prog 18 #[.agg l.fl.cells] W (RetB (.tuple #[.agg (Lay.cells ⟨l.base, l.cap, l.to, 0, 0, 0, 0⟩), .int .i64 0]) W) := by
  have := fl_flip l.fl W (fl_ok h)
  rw [show l.fl.fl = ⟨l.base, l.cap, l.to, 0, 0, 0, 0⟩ by simp only [Lay.fl]; congr 1; omega] at this
  exact this
theorem fl_room (l : Lay) (W : World) (h : l.Ok) : Calls Try.prog 22 #[.agg l.fl.cells] W (RetB (.int .i64 l.cap) W) := by
  have := room_any l.fl W (ok_wf (fl_ok h))
  rw [roomL, if_pos (fl_ok h)] at this
  rw [show l.fl.cap - l.fl.low - l.fl.high = l.cap by simp [Lay.fl]] at this
  exact this
theorem room_ok (l : Lay) (W : World) (h : l.Ok) : Calls Try.prog 22 #[.agg l.cells] W (RetB (.int .i64 (l.cap - l.low - l.high)) W) := by
  have := room_any l W (ok_wf h)
  rwa [roomL, if_pos h] at this
theorem fl_at1 (l : Lay) (h : l.Ok) : l.fl.at_ 3 = l.at_ 1 := by
  have h2 := h.2.2.2.2.1
  rcases h2 with h2 | h2 <;> simp [Lay.at_, Lay.off, Lay.fl, h2]
theorem fl_at2 (l : Lay) (h : l.Ok) : l.fl.at_ 4 = l.at_ 2 := by
  have h2 := h.2.2.2.2.1
  rcases h2 with h2 | h2 <;> simp [Lay.at_, Lay.off, Lay.fl, h2]
/-- The address of a place of the part in use, and that of its place in the flipped layout. -/
theorem fl_low (l : Lay) (k : Int) (h : l.Ok) (h0 : 0 ≤ k) (hk : k < l.low) :
    (∀ W, Calls Try.prog 24 #[.agg l.cells, .agg #[.int .i64 1, .int .i64 k]] W (RetB (.tuple #[.int .u64 (l.at_ 1 + k), .int .i64 0]) W)) ∧
    (∀ W, Calls Try.prog 24 #[.agg l.fl.cells, .agg #[.int .i64 3, .int .i64 k]] W (RetB (.tuple #[.int .u64 (l.at_ 1 + k), .int .i64 0]) W)) := by
  refine ⟨fun W => address_in l 1 k W h (by omega) (by omega) h0 hk, fun W => ?_⟩
  have := address_in l.fl 3 k W (fl_ok h) (by omega) (by omega) h0 hk
  rw [show (3 : Int).toNat = 3 from rfl, fl_at1 l h] at this
  exact this
theorem fl_high (l : Lay) (k : Int) (h : l.Ok) (h0 : 0 ≤ k) (hk : k < l.high) :
    (∀ W, Calls Try.prog 24 #[.agg l.cells, .agg #[.int .i64 2, .int .i64 k]] W (RetB (.tuple #[.int .u64 (l.at_ 2 + k), .int .i64 0]) W)) ∧
    (∀ W, Calls Try.prog 24 #[.agg l.fl.cells, .agg #[.int .i64 4, .int .i64 k]] W (RetB (.tuple #[.int .u64 (l.at_ 2 + k), .int .i64 0]) W)) := by
  refine ⟨fun W => address_in l 2 k W h (by omega) (by omega) h0 hk, fun W => ?_⟩
  have := address_in l.fl 4 k W (fl_ok h) (by omega) (by omega) h0 hk
  rw [show (4 : Int).toNat = 4 from rfl, fl_at2 l h] at this
  exact this

set_option maxRecDepth 100000 in
set_option maxHeartbeats 4000000 in
theorem pflip_walk (b n0 n1 n2 n3 n4 n5 at_ : Int) (w : World) (hb : 0 ≤ b ∧ b < 18446744073709551616) (g0 : -9223372036854775808 ≤ n0 ∧ n0 ≤ 9223372036854775807) (g1 : -9223372036854775808 ≤ n1 ∧ n1 ≤ 9223372036854775807) (g2 : -9223372036854775808 ≤ n2 ∧ n2 ≤ 9223372036854775807)
    (g3 : -9223372036854775808 ≤ n3 ∧ n3 ≤ 9223372036854775807) (g4 : -9223372036854775808 ≤ n4 ∧ n4 ≤ 9223372036854775807) (g5 : -9223372036854775808 ≤ n5 ∧ n5 ≤ 9223372036854775807) (ha1 : -9223372036854775808 ≤ at_ ∧ at_ ≤ 9223372036854775807) :
    Calls Try.prog 5 #[.int .u64 b, .agg #[.int .i64 n0, .int .i64 n1, .int .i64 n2, .int .i64 n3, .int .i64 n4, .int .i64 n5], .int .i64 at_] w (RetTrue w) := by
  have HLY := Lib.hid fun W => layout_any b n0 n1 n2 n3 n4 n5 W hb g0 g1 g2 g3 g4 g5
  have hok := layOf_ok b n0 n1 n2 n3 n4 n5
  obtain ⟨l, hl⟩ : ∃ l, l = layOf b n0 n1 n2 n3 n4 n5 := ⟨_, rfl⟩
  rw [← hl] at HLY hok
  clear hl hb g0 g1 g2 g3 g4 g5
  obtain ⟨hok, hcap⟩ := hok
  have HFL := Lib.hid fun W => fl_flip l W hok
  have HFB := Lib.hid fun W => fl_back l W hok
  have HFR := Lib.hid fun W => fl_room l W hok
  have HRM := Lib.hid fun W => room_ok l W hok
  have HRT := Lib.hid fun W => right_yes l.fl W (ok_wf (fl_ok hok)) (fl_ok hok)
  have HLO := Lib.hid fun k => fl_low l k hok
  have HHI := Lib.hid fun k => fl_high l k hok
  have htu : (1 - l.to == l.to) = false := by
    have := hok.2.2.2.2.1
    exact beq_eq_false_iff_ne.2 (by omega)
  have k1 : 1 ≤ l.base := hok.1
  have k2 : 0 ≤ l.cap := hok.2.1
  have k4 : l.base + 2 * l.cap ≤ 9223372036854775808 := hok.2.2.2.1
  have k4' : l.base ≤ 9223372036854775808 - 2 * l.cap := by omega
  have kl : 0 ≤ l.low ∧ l.low ≤ 40 ∧ 0 ≤ l.high ∧ l.high ≤ 40 ∧ 0 ≤ l.old ∧ l.old ≤ 40 ∧ 0 ≤ l.far ∧ l.far ≤ 40 ∧ l.low + l.high ≤ l.cap ∧ l.old + l.far ≤ l.cap := by
    obtain ⟨_, _, _, _, _, a, b, c, d, e, f⟩ := hok
    omega
  obtain ⟨kl1, kl2, kl3, kl4, kl5, kl6, kl7, kl8, kl9, kl10⟩ := kl
  have HOK := Lib.hid hok
  clear hok
  simp only [Lay.cells, Lay.fl] at HLY HFL HFB HFR HRM HRT HLO HHI
  go_enter Try.func5, Try.ntmps5
  go_wp2_with fail
  refine (awake7_any _).mono ?_
  intro e w1 hr
  obtain ⟨rfl, x, rfl⟩ := hr.later
  have hbx : Below w.heap.size w x.w := bl_step (bl_alloc (bl_refl w) _) x.below
  go_wp2_with fail
  refine (HLY.out _).mono ?_
  intro e w2 hr2
  obtain ⟨rfl, hb2⟩ := hr2.both
  have hbw2 := bl_step hbx hb2
  have hl := LayAt.lit w2 l 24
  have hbw3 : Below w.heap.size w (w2.alloc (.cells l.cells 24)) := bl_alloc hbw2 _
  simp only [Lay.cells] at hl hbw3
  clear hr hr2 hb2 hbx hbw2 x HLY
  go_wp2_with fail
  refine (HFL.out _).mono ?_
  intro e w4 hr
  obtain ⟨rfl, hb4⟩ := hr.both
  have hl4 := hl.below hb4
  have hbw4 := bl_step hbw3 hb4
  have hm4 := LayAt.lit w4 l.fl 24
  have hl5 := hl4.alloc (.cells l.fl.cells 24)
  simp only [Lay.cells, Lay.fl] at hm4 hl5
  clear hl hbw3 hb4 hr
  go_wp2_with fail
  refine (HFB.out _).mono ?_
  intro e w5 hr
  obtain ⟨rfl, hb5⟩ := hr.both
  have hl6 := hl5.below hb5
  have hm6 := hm4.below hb5
  have hbw6 := bl_step (bl_alloc hbw4 _) hb5
  have ho6 := LayAt.lit w5 ⟨l.base, l.cap, l.to, 0, 0, 0, 0⟩ 24
  have hl7 := hl6.alloc (.cells (Lay.cells ⟨l.base, l.cap, l.to, 0, 0, 0, 0⟩) 24)
  have hm7 := hm6.alloc (.cells (Lay.cells ⟨l.base, l.cap, l.to, 0, 0, 0, 0⟩) 24)
  have hbw7 := bl_alloc hbw6 (.cells (Lay.cells ⟨l.base, l.cap, l.to, 0, 0, 0, 0⟩) 24)
  simp only [Lay.cells] at ho6 hl7 hm7 hbw7
  clear hl5 hm4 hb5 hr hl4 hbw4 hl6 hm6 hbw6
  have hgg := hm7
  go_wp2_with fail
  obtain ⟨W7, hW7⟩ : ∃ W7, W7 = w5.alloc (.cells #[.int .u64 l.base, .int .i64 l.cap, .int .i64 l.to, .int .i64 0, .int .i64 0, .int .i64 0, .int .i64 0] 24) := ⟨_, rfl⟩
  rw [← hW7] at ho6 hl7 hm7 hbw7 ⊢
  clear hW7 hgg
  obtain ⟨g1, hg1⟩ : ∃ g, g = w2.heap.size := ⟨_, rfl⟩
  obtain ⟨g2, hg2⟩ : ∃ g, g = w4.heap.size := ⟨_, rfl⟩
  obtain ⟨g3, hg3⟩ : ∃ g, g = w5.heap.size := ⟨_, rfl⟩
  rw [← hg1] at hl7 ⊢
  rw [← hg2] at hm7 ⊢
  rw [← hg3] at ho6 ⊢
  clear hg1 hg2 hg3
  obtain ⟨c0, c1, c2, c3, c4, c5, c6⟩ := id hl7
  obtain ⟨d0, d1, d2, d3, d4, d5, d6⟩ := id hm7
  obtain ⟨o0, o1, o2, o3, o4, o5, o6⟩ := id ho6
  simp only at d0 d1 d2 d3 d4 d5 d6 o0 o1 o2 o3 o4 o5 o6
  have z0 := World.block_lt_of_cell? _ _ c0
  have z1 := World.block_lt_of_cell? _ _ d0
  have z2 := World.block_lt_of_cell? _ _ o0
  have e1 : IntKind.i64.wrap (l.cap - l.low) = l.cap - l.low := IntWalk.i64_in _ (by omega)
  have e2 : IntKind.i64.wrap (l.cap - l.low - l.high) = l.cap - l.low - l.high := IntWalk.i64_in _ (by omega)
  simp only [List.append_eq, List.cons_append, List.nil_append]
  refine wp_region_later (by kernel_rfl) (by kernel_rfl) ?_
  repeat (go_big_quiet_step ((first | with_reducible exact later_retB (HFR.out _) | with_reducible exact later_retB (HRM.out _) | with_reducible exact later_retB (HRT.out _))))
  refine wpQuiet_nil ?_
  intro _ hw'
  obtain ⟨y, hw''⟩ := hw'
  subst hw''
  have hl10 := hl7.below y.below
  have hm10 := hm7.below y.below
  have hbw10 := bl_step hbw7 y.below
  revert hl10 hm10 hbw10
  obtain ⟨w8, hw8⟩ : ∃ w8, w8 = y.w := ⟨_, rfl⟩
  rw [← hw8]
  intro hl10 hm10 hbw10
  clear hw8 y e1 e2 z0 z1 z2 c0 c1 c2 c3 c4 c5 c6 d0 d1 d2 d3 d4 d5 d6 o0 o1 o2 o3 o4 o5 o6 hl7 hm7 ho6 hbw7
  obtain ⟨c0, c1, c2, c3, c4, c5, c6⟩ := id hl10
  obtain ⟨d0, d1, d2, d3, d4, d5, d6⟩ := id hm10
  simp only at d0 d1 d2 d3 d4 d5 d6
  have hgz := World.block_lt_of_cell? w8 _ c0
  have hgz2 := World.block_lt_of_cell? w8 _ d0
  by_cases h0 : l.low + l.high = 0
  · have h0' : (l.low + l.high == 0) = true := beq_iff_eq.2 h0
    clear h0
    go_wp2
    go_ret
    exact ⟨rfl, hbw10⟩
  · have h0' : (l.low + l.high == 0) = false := beq_eq_false_iff_ne.2 h0
    have HPK := Lib.hid fun W => pick_any at_ (l.low + l.high) W ha1.1 ha1.2 (by omega) (by omega)
    have hkb := pickI_b at_ (l.low + l.high) (by omega)
    obtain ⟨k, hk⟩ : ∃ k, k = pickI at_ (l.low + l.high) := ⟨_, rfl⟩
    rw [← hk] at HPK hkb
    obtain ⟨hk0, hk1⟩ := hkb
    clear hk h0
    go_wp2_with fail
    refine (HPK.out _).mono ?_
    rintro e w9 ⟨rfl, rfl⟩
    by_cases hlt : k < l.low
    · obtain ⟨HA, HB⟩ := HLO.out k hk0 hlt
      have HA := Lib.hid HA
      have HB := Lib.hid HB
      go_wp2_with fail
      refine (HA.out _).mono ?_
      intro e w10 hr
      obtain ⟨rfl, hb10⟩ := hr.both
      have hm11 := ((hm10.alloc _).alloc _).below hb10
      have hbw11 := bl_step (bl_alloc (bl_alloc hbw10 _) _) hb10
      have hp11 := ((TwoAt.lit w8 (.int .i64 1) (.int .i64 k) 27).alloc (.cells #[.int .i64 3, .int .i64 k] 27)).below hb10
      have hq11 := (TwoAt.lit (w8.alloc (.cells #[.int .i64 1, .int .i64 k] 27)) (.int .i64 3) (.int .i64 k) 27).below hb10
      rw [show (w8.alloc (.cells #[.int .i64 1, .int .i64 k] 27)).heap.size = w8.heap.size + 1 by simp] at hq11
      obtain ⟨q0, q1⟩ := hq11
      clear c0 c1 c2 c3 c4 c5 c6 d0 d1 d2 d3 d4 d5 d6 hp11
      obtain ⟨d0, d1, d2, d3, d4, d5, d6⟩ := id hm11
      simp only at d0 d1 d2 d3 d4 d5 d6
      go_wp2_with fail
      refine (HB.out _).mono ?_
      intro e w11 hr
      obtain ⟨rfl, hb11⟩ := hr.both
      go_wp2
      go_ret
      exact ⟨rfl, bl_step hbw11 hb11⟩
    · have hlt : l.low ≤ k := by omega
      obtain ⟨HA, HB⟩ := HHI.out (k - l.low) (by omega) (by omega)
      have HA := Lib.hid HA
      have HB := Lib.hid HB
      go_wp2_with fail
      refine (HA.out _).mono ?_
      intro e w10 hr
      obtain ⟨rfl, hb10⟩ := hr.both
      have hm11 := ((hm10.alloc _).alloc _).below hb10
      have hbw11 := bl_step (bl_alloc (bl_alloc hbw10 _) _) hb10
      have hq11 := (TwoAt.lit (w8.alloc (.cells #[.int .i64 2, .int .i64 (k - l.low)] 27)) (.int .i64 4) (.int .i64 (k - l.low)) 27).below hb10
      rw [show (w8.alloc (.cells #[.int .i64 2, .int .i64 (k - l.low)] 27)).heap.size = w8.heap.size + 1 by simp] at hq11
      obtain ⟨q0, q1⟩ := hq11
      clear c0 c1 c2 c3 c4 c5 c6 d0 d1 d2 d3 d4 d5 d6
      obtain ⟨d0, d1, d2, d3, d4, d5, d6⟩ := id hm11
      simp only at d0 d1 d2 d3 d4 d5 d6
      go_wp2_with fail
      refine (HB.out _).mono ?_
      intro e w11 hr
      obtain ⟨rfl, hb11⟩ := hr.both
      go_wp2
      go_ret
      exact ⟨rfl, bl_step hbw11 hb11⟩
end Go.Proofs.Ytappejihclmjmaa
