/-
  PlacesTwo: the walk of the law. Conditions: integers that fit.
-/
import Derived.Test.YtappejihclmjmaaPFlip
import Derived.Test.YtappejihclmjmaaPMoved
namespace Go.Proofs.Ytappejihclmjmaa
open Go.RowKit
attribute [local go_sem ↓] Go.wp_at_zero Go.wp_at_succ

theorem TwoAt.far {w : World} {g : Nat} {a b : Value} (h : TwoAt w g a b) {p : Addr} (hp : g ≠ p.block) (u : Value) : TwoAt (w.setCell p u) g a b := by
  obtain ⟨c0, c1⟩ := h
  have e : ∀ i, (w.setCell p u).cell? ⟨g, i, none⟩ = w.cell? ⟨g, i, none⟩ := fun i => World.cell?_setCell_other w p ⟨g, i, none⟩ u (fun e => by subst e; exact hp rfl)
  exact ⟨(e 0).trans c0, (e 1).trans c1⟩

def PTRel (l : Lay) (w : World) (m i : Value) (wr : World) : Prop := ∃ k : Int, 0 ≤ k ∧ k ≤ 2 * l.cap ∧ i = .int .i64 k ∧ m = .int .i64 (k - cnt l k) ∧ Below w.heap.size w wr

/-- Both have an address: two places are the same just if their addresses are. -/
theorem adr_two (l : Lay) (h : l.Ok) (p i q j : Int) (h1 : adrE l p i = 0) (h2 : adrE l q j = 0) : adrA l p i = adrA l q j ↔ (p = q ∧ i = j) := by
  have e : ∀ p i, adrE l p i = 0 → 1 ≤ p ∧ p ≤ 4 ∧ 0 ≤ i ∧ i < l.size p.toNat := fun p i h0 => by
    rw [adrE, if_pos h] at h0
    by_cases c : 1 ≤ p ∧ p ≤ 4 ∧ 0 ≤ i ∧ i < l.size p.toNat
    · exact c
    · rw [if_neg c] at h0; omega
  have c1 := e p i h1
  have c2 := e q j h2
  have f1 := find_adr l h p i c1.1 c1.2.1 c1.2.2.1 c1.2.2.2
  have f2 := find_adr l h q j c2.1 c2.2.1 c2.2.2.1 c2.2.2.2
  constructor
  · intro ha
    rw [adrA, adrA, if_pos ⟨h, c1⟩, if_pos ⟨h, c2⟩] at ha
    rw [ha] at f1
    exact ⟨f1.1.symm.trans f2.1, f1.2.1.symm.trans f2.2.1⟩
  · rintro ⟨rfl, rfl⟩; rfl
theorem adr_e (l : Lay) (h : l.Ok) (p i : Int) : adrE l p i = 0 ∨ (adrE l p i = 6 ∧ adrA l p i = 0) := by
  rw [adrE, adrA, if_pos h]
  by_cases c : 1 ≤ p ∧ p ≤ 4 ∧ 0 ≤ i ∧ i < l.size p.toNat
  · rw [if_pos c]; exact .inl rfl
  · rw [if_neg c, if_neg (fun d => c d.2)]; exact .inr ⟨rfl, rfl⟩

set_option maxRecDepth 100000 in
set_option maxHeartbeats 4000000 in
theorem ptwo_walk (b n0 n1 n2 n3 n4 n5 p0 i0 q0 j0 : Int) (w : World) (hb : 0 ≤ b ∧ b < 18446744073709551616) (g0 : -9223372036854775808 ≤ n0 ∧ n0 ≤ 9223372036854775807) (g1 : -9223372036854775808 ≤ n1 ∧ n1 ≤ 9223372036854775807) (g2 : -9223372036854775808 ≤ n2 ∧ n2 ≤ 9223372036854775807)
    (g3 : -9223372036854775808 ≤ n3 ∧ n3 ≤ 9223372036854775807) (g4 : -9223372036854775808 ≤ n4 ∧ n4 ≤ 9223372036854775807) (g5 : -9223372036854775808 ≤ n5 ∧ n5 ≤ 9223372036854775807) (hp0 : -9223372036854775808 ≤ p0 ∧ p0 ≤ 9223372036854775807) (hi0 : -9223372036854775808 ≤ i0 ∧ i0 ≤ 9223372036854775807) (hq0 : -9223372036854775808 ≤ q0 ∧ q0 ≤ 9223372036854775807) (hj0 : -9223372036854775808 ≤ j0 ∧ j0 ≤ 9223372036854775807) :
    Calls Try.prog 8 #[.int .u64 b, .agg #[.int .i64 n0, .int .i64 n1, .int .i64 n2, .int .i64 n3, .int .i64 n4, .int .i64 n5], .agg #[.int .i64 p0, .int .i64 i0], .agg #[.int .i64 q0, .int .i64 j0]] w (RetTrue w) := by
  have HLY := Lib.hid fun W => layout_any b n0 n1 n2 n3 n4 n5 W hb g0 g1 g2 g3 g4 g5
  have hok := layOf_ok b n0 n1 n2 n3 n4 n5
  obtain ⟨l, hl⟩ : ∃ l, l = layOf b n0 n1 n2 n3 n4 n5 := ⟨_, rfl⟩
  rw [← hl] at HLY hok
  clear hl hb g0 g1 g2 g3 g4 g5
  obtain ⟨hok, hcap⟩ := hok
  have hpb := pickI_b p0 4 (by omega)
  have HPp := Lib.hid fun W => pick_any p0 4 W hp0.1 hp0.2 (by omega) (by omega)
  obtain ⟨p, hp⟩ : ∃ d, d = pickI p0 4 := ⟨_, rfl⟩
  rw [← hp] at hpb HPp
  obtain ⟨hp1, hp2⟩ := hpb
  clear hp hp0
  have hib := pickI_b i0 42 (by omega)
  have HPi := Lib.hid fun W => pick_any i0 42 W hi0.1 hi0.2 (by omega) (by omega)
  obtain ⟨i, hi⟩ : ∃ d, d = pickI i0 42 := ⟨_, rfl⟩
  rw [← hi] at hib HPi
  obtain ⟨hi1, hi2⟩ := hib
  clear hi hi0
  have hqb := pickI_b q0 4 (by omega)
  have HPq := Lib.hid fun W => pick_any q0 4 W hq0.1 hq0.2 (by omega) (by omega)
  obtain ⟨q, hq⟩ : ∃ d, d = pickI q0 4 := ⟨_, rfl⟩
  rw [← hq] at hqb HPq
  obtain ⟨hq1, hq2⟩ := hqb
  clear hq hq0
  have hjb := pickI_b j0 42 (by omega)
  have HPj := Lib.hid fun W => pick_any j0 42 W hj0.1 hj0.2 (by omega) (by omega)
  obtain ⟨j, hj⟩ : ∃ d, d = pickI j0 42 := ⟨_, rfl⟩
  rw [← hj] at hjb HPj
  obtain ⟨hj1, hj2⟩ := hjb
  clear hj hj0
  have HA := Lib.hid fun W => address_any l (1 + p) i W (ok_wf hok) (by omega) (by omega)
  have HB := Lib.hid fun W => address_any l (1 + q) j W (ok_wf hok) (by omega) (by omega)
  have HTWO := Lib.hid (adr_two l hok (1 + p) i (1 + q) j)
  have HEA := Lib.hid (adr_e l hok (1 + p) i)
  have HEB := Lib.hid (adr_e l hok (1 + q) j)
  have HN := Lib.hid fun y W a b => find_none l y W hok a b
  have HS := Lib.hid fun y W a b => find_some l y W hok a b
  have HRM := Lib.hid fun W => room_ok l W hok
  have HCZ := Lib.hid (cnt_zero l hok)
  have HCA := Lib.hid (cnt_all l hok)
  have HCS := Lib.hid fun i => cnt_step l hok i
  have HCB := Lib.hid fun i => cnt_bound l hok i
  have k1 : 1 ≤ l.base := hok.1
  have k2 : 0 ≤ l.cap := hok.2.1
  have k4 : l.base + 2 * l.cap ≤ 9223372036854775808 := hok.2.2.2.1
  have k4' : l.base ≤ 9223372036854775808 - 2 * l.cap := by omega
  have kl : 0 ≤ l.low ∧ l.low ≤ 40 ∧ 0 ≤ l.high ∧ l.high ≤ 40 ∧ 0 ≤ l.old ∧ l.old ≤ 40 ∧ 0 ≤ l.far ∧ l.far ≤ 40 ∧ l.low + l.high ≤ l.cap ∧ l.old + l.far ≤ l.cap := by
    obtain ⟨_, _, _, _, _, a, b, c, d, e, f⟩ := hok
    omega
  obtain ⟨kl1, kl2, kl3, kl4, kl5, kl6, kl7, kl8, kl9, kl10⟩ := kl
  have HOK := Lib.hid hok
  clear hok
  simp only [Lay.cells] at HLY HA HB HN HS HRM
  go_enter Try.func8, Try.ntmps8
  go_wp2_with fail
  refine (awake7_any _).mono ?_
  intro e w1 hr
  obtain ⟨rfl, x, rfl⟩ := hr.later
  have hbx : Below w.heap.size w x.w := bl_step (bl_alloc (bl_alloc (bl_alloc (bl_refl w) _) _) _) x.below
  go_wp2_with fail
  refine (HLY.out _).mono ?_
  intro e w2 hr2
  obtain ⟨rfl, hb2⟩ := hr2.both
  have hbw2 := bl_step hbx hb2
  have hp2 : TwoAt w2 (w.heap.size + 1) (.int .i64 p0) (.int .i64 i0) := by
    have h0 := (TwoAt.lit (w.alloc (.cells #[.int .i64 n0, .int .i64 n1, .int .i64 n2, .int .i64 n3, .int .i64 n4, .int .i64 n5] 25)) (.int .i64 p0) (.int .i64 i0) 27)
    rw [show (w.alloc (.cells #[.int .i64 n0, .int .i64 n1, .int .i64 n2, .int .i64 n3, .int .i64 n4, .int .i64 n5] 25)).heap.size = w.heap.size + 1 by simp] at h0
    exact (((h0.alloc (.cells #[.int .i64 q0, .int .i64 j0] 27)).below x.below).below hb2)
  have hq2 : TwoAt w2 (w.heap.size + 1 + 1) (.int .i64 q0) (.int .i64 j0) := by
    have h0 := (TwoAt.lit ((w.alloc (.cells #[.int .i64 n0, .int .i64 n1, .int .i64 n2, .int .i64 n3, .int .i64 n4, .int .i64 n5] 25)).alloc (.cells #[.int .i64 p0, .int .i64 i0] 27)) (.int .i64 q0) (.int .i64 j0) 27)
    rw [show ((w.alloc (.cells #[.int .i64 n0, .int .i64 n1, .int .i64 n2, .int .i64 n3, .int .i64 n4, .int .i64 n5] 25)).alloc (.cells #[.int .i64 p0, .int .i64 i0] 27)).heap.size = w.heap.size + 1 + 1 by simp] at h0
    exact ((h0.below x.below).below hb2)
  have hl := LayAt.lit w2 l 24
  have hbw3 : Below w.heap.size w (w2.alloc (.cells l.cells 24)) := bl_alloc hbw2 _
  have hp3 := hp2.alloc (.cells l.cells 24)
  have hq3 := hq2.alloc (.cells l.cells 24)
  simp only [Lay.cells] at hl hbw3 hp3 hq3
  have hw2 : w.heap.size ≤ w2.heap.size := hbw2.size
  clear hr hr2 hb2 hbx hbw2 x HLY hp2 hq2
  go_wp2_with fail
  obtain ⟨W3, hW3⟩ : ∃ W3, W3 = w2.alloc (.cells #[.int .u64 l.base, .int .i64 l.cap, .int .i64 l.to, .int .i64 l.low, .int .i64 l.high, .int .i64 l.old, .int .i64 l.far] 24) := ⟨_, rfl⟩
  rw [← hW3] at hl hbw3 hp3 hq3 ⊢
  clear hW3
  obtain ⟨g, hg⟩ : ∃ g, g = w2.heap.size := ⟨_, rfl⟩
  rw [← hg] at hl hw2 ⊢
  clear hg
  obtain ⟨s0, s1⟩ := id hp3
  obtain ⟨t0, t1⟩ := id hq3
  have zs : w.heap.size + 1 < W3.heap.size := World.block_lt_of_cell? _ _ s0
  have zt : w.heap.size + 1 + 1 < W3.heap.size := World.block_lt_of_cell? _ _ t0
  have zl : g < W3.heap.size := World.block_lt_of_cell? _ _ hl.1
  have ew : IntKind.i64.wrap (1 + p) = 1 + p := IntWalk.i64_in _ (by omega)
  refine wp_region_alloc 8 127 _ (some 11) (.cells #[.int .i64 0, .int .i64 0] 27) ?fin (by kernel_rfl) (by kernel_rfl) rfl rfl rfl (fun _ _ => rfl) rfl (by kernel_rfl) ?head ?tail
  case head =>
    intro C G
    simp only [List.take_succ_cons, List.take_zero]
    repeat (go_big_quiet_step ((first | with_reducible exact grown_same (HPp.out _) | with_reducible exact grown_same (HPi.out _))))
    refine wpQuiet_nil ?_
    exact rfl
  case tail =>
  intro ga y hga hza
  simp only [List.drop_succ_cons, List.drop_zero]
  have hc0 : y.w.cell? ⟨ga, 0, none⟩ = some (.int .i64 0) := blk_cell hza 0
  have hc1 : y.w.cell? ⟨ga, 1, none⟩ = some (.int .i64 0) := blk_cell hza 1
  have hf0 := blk_frozen hza 0
  have hf1 := blk_frozen hza 1
  have nl : g ≠ ga := by omega
  have nq : w.heap.size + 1 + 1 ≠ ga := by omega
  have nw : w.heap.size ≤ ga := by omega
  have hl4 := (((hl.below y.below).far (p := ⟨ga, 0, none⟩) nl (.int .i64 (1 + p))).far (p := ⟨ga, 1, none⟩) nl (.int .i64 i))
  have hq4 := (((hq3.below y.below).far (p := ⟨ga, 0, none⟩) nq (.int .i64 (1 + p))).far (p := ⟨ga, 1, none⟩) nq (.int .i64 i))
  have hbw4 := (((bl_step hbw3 y.below).setCell (p := ⟨ga, 0, none⟩) nw (.int .i64 (1 + p))).setCell (p := ⟨ga, 1, none⟩) nw (.int .i64 i))
  have hp4 : TwoAt ((y.w.setCell ⟨ga, 0, none⟩ (.int .i64 (1 + p))).setCell ⟨ga, 1, none⟩ (.int .i64 i)) ga (.int .i64 (1 + p)) (.int .i64 i) := ⟨blk_cell (blk_set (blk_set hza 0 _) 1 _) 0, blk_cell (blk_set (blk_set hza 0 _) 1 _) 1⟩
  clear s0 s1 t0 t1 zs zt zl ew hl hp3 hq3 hbw3
  go_wp2_with fail
  clear hc0 hc1 hf0 hf1
  obtain ⟨W4, hW4⟩ : ∃ W4, W4 = ((y.w.setCell ⟨ga, 0, none⟩ (.int .i64 (1 + p))).setCell ⟨ga, 1, none⟩ (.int .i64 i)) := ⟨_, rfl⟩
  rw [← hW4] at hl4 hq4 hbw4 hp4 ⊢
  clear hW4 hza hga y
  obtain ⟨t0, t1⟩ := id hq4
  have zt : w.heap.size + 1 + 1 < W4.heap.size := World.block_lt_of_cell? _ _ t0
  have zl : g < W4.heap.size := World.block_lt_of_cell? _ _ hl4.1
  have zp : ga < W4.heap.size := World.block_lt_of_cell? _ _ hp4.1
  have zw : w.heap.size ≤ W4.heap.size := hbw4.size
  have ew : IntKind.i64.wrap (1 + q) = 1 + q := IntWalk.i64_in _ (by omega)
  refine wp_region_alloc 8 127 _ (some 12) (.cells #[.int .i64 0, .int .i64 0] 27) ?fin2 (by kernel_rfl) (by kernel_rfl) rfl rfl rfl (fun _ _ => rfl) rfl (by kernel_rfl) ?head2 ?tail2
  case head2 =>
    intro C G
    simp only [List.take_succ_cons, List.take_zero]
    repeat (go_big_quiet_step ((first | with_reducible exact grown_same (HPq.out _) | with_reducible exact grown_same (HPj.out _))))
    refine wpQuiet_nil ?_
    exact rfl
  case tail2 =>
  intro gb y hgb hzb
  simp only [List.drop_succ_cons, List.drop_zero]
  have hc0 : y.w.cell? ⟨gb, 0, none⟩ = some (.int .i64 0) := blk_cell hzb 0
  have hc1 : y.w.cell? ⟨gb, 1, none⟩ = some (.int .i64 0) := blk_cell hzb 1
  have hf0 := blk_frozen hzb 0
  have hf1 := blk_frozen hzb 1
  have n1 : gb ≠ g := by omega
  have n2 : gb ≠ ga := by omega
  have n3 : g ≠ gb := by omega
  have n4 : ga ≠ gb := by omega
  have nw2 : w.heap.size ≤ gb := by omega
  have hl5 := (((hl4.below y.below).far (p := ⟨gb, 0, none⟩) n3 (.int .i64 (1 + q))).far (p := ⟨gb, 1, none⟩) n3 (.int .i64 j))
  have hp5 := (((hp4.below y.below).far (p := ⟨gb, 0, none⟩) n4 (.int .i64 (1 + q))).far (p := ⟨gb, 1, none⟩) n4 (.int .i64 j))
  have hbw5 := (((bl_step hbw4 y.below).setCell (p := ⟨gb, 0, none⟩) nw2 (.int .i64 (1 + q))).setCell (p := ⟨gb, 1, none⟩) nw2 (.int .i64 j))
  have hq5 : TwoAt ((y.w.setCell ⟨gb, 0, none⟩ (.int .i64 (1 + q))).setCell ⟨gb, 1, none⟩ (.int .i64 j)) gb (.int .i64 (1 + q)) (.int .i64 j) := ⟨blk_cell (blk_set (blk_set hzb 0 _) 1 _) 0, blk_cell (blk_set (blk_set hzb 0 _) 1 _) 1⟩
  clear t0 t1 ew
  obtain ⟨c0, c1, c2, c3, c4, c5, c6⟩ := id hl4
  obtain ⟨s0, s1⟩ := id hp4
  go_wp2_with fail
  clear hc0 hc1 hf0 hf1 c0 c1 c2 c3 c4 c5 c6 s0 s1 hl4 hq4 hbw4 hp4 zt zl zp zw n1 n2 n3 n4
  obtain ⟨W5, hW5⟩ : ∃ W5, W5 = ((y.w.setCell ⟨gb, 0, none⟩ (.int .i64 (1 + q))).setCell ⟨gb, 1, none⟩ (.int .i64 j)) := ⟨_, rfl⟩
  rw [← hW5] at hl5 hp5 hbw5 hq5 ⊢
  clear hW5 hzb hgb y
  have HTWO' := HTWO.out
  have HEA' := HEA.out
  have HEB' := HEB.out
  have HA' := HA.out
  have HB' := HB.out
  obtain ⟨X, hX⟩ : ∃ X, X = adrA l (1 + p) i := ⟨_, rfl⟩
  obtain ⟨E, hE⟩ : ∃ X, X = adrE l (1 + p) i := ⟨_, rfl⟩
  obtain ⟨Y, hY⟩ : ∃ X, X = adrA l (1 + q) j := ⟨_, rfl⟩
  obtain ⟨F, hF⟩ : ∃ X, X = adrE l (1 + q) j := ⟨_, rfl⟩
  rw [← hX, ← hE] at HTWO' HA'
  rw [← hX, ← hE] at HEA'
  rw [← hY, ← hF] at HTWO' HB'
  rw [← hY, ← hF] at HEB'
  have HA2 := Lib.hid HA'
  have HB2 := Lib.hid HB'
  have HTWO2 := Lib.hid HTWO'
  have HEA2 := Lib.hid HEA'
  have HEB2 := Lib.hid HEB'
  clear HA' HB' HTWO' HEA' HEB' hX hE hY hF HA HB HTWO HEA HEB HPp HPi HPq HPj
  refine (HA2.out _).mono ?_
  intro e w6 hr
  obtain ⟨rfl, hb6⟩ := hr.both
  have hl6 := hl5.below hb6
  have hp6 := hp5.below hb6
  have hq6 := hq5.below hb6
  have hbw6 := bl_step hbw5 hb6
  clear hl5 hp5 hq5 hbw5 hb6 hr
  obtain ⟨c0, c1, c2, c3, c4, c5, c6⟩ := id hl6
  obtain ⟨t0, t1⟩ := id hq6
  go_wp2_with fail
  refine (HB2.out _).mono ?_
  intro e w7 hr
  obtain ⟨rfl, hb7⟩ := hr.both
  have hl7 := hl6.below hb7
  have hp7 := hp6.below hb7
  have hq7 := hq6.below hb7
  have hbw7 := bl_step hbw6 hb7
  clear hl6 hp6 hq6 hbw6 hb7 hr c0 c1 c2 c3 c4 c5 c6 t0 t1
  go_wp2_with fail
  go_loopw [17, 18] (fun m i wr => PTRel l w7 m i wr) (fun _ i _ => (2 * l.cap - intOf i).toNat)
  case atStart => exact ⟨0, by omega, by omega, rfl, by rw [HCZ.out]; rfl, bl_refl _⟩
  case round =>
    obtain ⟨k, hk0, hk, rfl, rfl, hb⟩ := hrel
    have hl8 := hl7.below hb
    obtain ⟨c0, c1, c2, c3, c4, c5, c6⟩ := id hl8
    have hcb := HCB.out k hk0
    obtain ⟨hcb1, hcb2, hcb3⟩ := hcb
    obtain ⟨w8', rfl⟩ : ∃ w8' : World, w8' = wr := ⟨_, rfl⟩
    by_cases hlt : k < 2 * l.cap
    · have hstep := HCS.out k hk0
      by_cases hf : fndK l (l.base + k) = 0
      · rw [if_pos hf, Int.add_zero] at hstep
        have HST := Lib.hid hstep
        have HF := Lib.hid fun W => HN.out (l.base + k) W (by omega) (by omega) hf
        clear hstep hf
        obtain ⟨cc, hcc⟩ : ∃ cc, cc = cnt l k := ⟨_, rfl⟩
        rw [← hcc] at hcb1 hcb2 hcb3 HST ⊢
        clear hcc
        go_wp2_with fail
        refine (HF.out _).mono ?_
        intro e w9 hr
        obtain ⟨rfl, hb9⟩ := hr.both
        clear c0 c1 c2 c3 c4 c5 c6
        go_wp2
        exact ⟨⟨k + 1, by omega, by omega, rfl, by rw [HST.out]; congr 1; omega, bl_alloc (bl_step hb hb9) _⟩, by simp [intOf]; omega⟩
      · rw [if_neg hf] at hstep
        have HST := Lib.hid hstep
        have HF := Lib.hid fun W => HS.out (l.base + k) W (by omega) (by omega) hf
        clear hstep hf
        obtain ⟨cc, hcc⟩ : ∃ cc, cc = cnt l k := ⟨_, rfl⟩
        rw [← hcc] at hcb1 hcb2 hcb3 HST ⊢
        clear hcc
        go_wp2_with fail
        refine (HF.out _).mono ?_
        intro e w9 hr
        obtain ⟨rfl, hb9⟩ := hr.both
        clear c0 c1 c2 c3 c4 c5 c6
        go_wp2
        exact ⟨⟨k + 1, by omega, by omega, rfl, by rw [HST.out]; congr 1; omega, bl_alloc (bl_step hb hb9) _⟩, by simp [intOf]; omega⟩
    · obtain rfl : k = 2 * l.cap := by omega
      rw [HCA.out]
      rw [show 2 * l.cap - (l.low + l.high + l.old + l.far) = 2 * l.cap - l.low - l.high - l.old - l.far by omega]
      have hp8 := hp7.below hb
      have hq8 := hq7.below hb
      have hbw8 := bl_step hbw7 hb
      obtain ⟨s0, s1⟩ := id hp8
      obtain ⟨t0, t1⟩ := id hq8
      clear hcb1 hcb2 hcb3 hlt hl7 hp7 hq7 hbw7 hb
      have HE1 := HEA2.out
      have HF1 := HEB2.out
      have HT1 := HTWO2.out
      clear HA2 HB2 HTWO2 HEA2 HEB2 HN HS HCZ HCA HCS HCB
      have hge : l.cap - l.low - l.high ≤ 2 * l.cap - l.low - l.high - l.old - l.far := by omega
      rcases HE1 with rfl | ⟨rfl, rfl⟩
      · rcases HF1 with rfl | ⟨rfl, rfl⟩
        · by_cases hs : p = q ∧ i = j
          · obtain ⟨rfl, rfl⟩ := hs
            obtain rfl : X = Y := (HT1 rfl rfl).2 ⟨rfl, rfl⟩
            clear HT1
            go_wp2_with fail
            refine (HRM.out _).mono ?_
            intro e w9 hr
            obtain ⟨rfl, hb9⟩ := hr.both
            go_wp2
            go_ret
            exact ⟨rfl, bl_step hbw8 hb9⟩
          · have hxy : X ≠ Y := fun h => hs (by have := (HT1 rfl rfl).1 h; omega)
            have hxy' : (X == Y) = false := beq_eq_false_iff_ne.2 hxy
            have hagg : ¬ (1 + p = 1 + q ∧ i = j) := fun h => hs (by omega)
            clear HT1 hs hxy
            go_wp2_with fail
            all_goals
              refine (HRM.out _).mono ?_
              intro e w9 hr
              obtain ⟨rfl, hb9⟩ := hr.both
              go_wp2
              go_ret
              exact ⟨rfl, bl_step hbw8 hb9⟩
        · clear HT1
          go_wp2_with fail
          refine (HRM.out _).mono ?_
          intro e w9 hr
          obtain ⟨rfl, hb9⟩ := hr.both
          go_wp2
          go_ret
          exact ⟨rfl, bl_step hbw8 hb9⟩
      · clear HT1
        rcases HF1 with rfl | ⟨rfl, rfl⟩
        all_goals
          go_wp2_with fail
          refine (HRM.out _).mono ?_
          intro e w9 hr
          obtain ⟨rfl, hb9⟩ := hr.both
          go_wp2
          go_ret
          exact ⟨rfl, bl_step hbw8 hb9⟩
end Go.Proofs.Ytappejihclmjmaa
