/-
  PlacesTells: the walk of the law. Conditions: integers that fit.
-/
import Derived.Test.YtappejihclmjmaaPBack
import Derived.Test.YtappejihclmjmaaPK
import Derived.Test.YtappejihclmjmaaTail
import Derived.BigQuiet
import Derived.IntWalk
import Derived.Deep.RegionHeld3
import Derived.Deep.DeepCutAuto
import Derived.Deep.DrawnRows
import Derived.Deep.CutBlock
namespace Go.Proofs.Ytappejihclmjmaa
open Go.RowKit
attribute [local go_sem ↓] Go.wp_at_zero Go.wp_at_succ

/-- A layout lies in block g, from k on. -/
def LayOff (w : World) (g k : Nat) (l : Lay) : Prop :=
  w.cell? ⟨g, k, none⟩ = some (.int .u64 l.base) ∧ w.cell? ⟨g, k + 1, none⟩ = some (.int .i64 l.cap) ∧ w.cell? ⟨g, k + 2, none⟩ = some (.int .i64 l.to) ∧ w.cell? ⟨g, k + 3, none⟩ = some (.int .i64 l.low) ∧
  w.cell? ⟨g, k + 4, none⟩ = some (.int .i64 l.high) ∧ w.cell? ⟨g, k + 5, none⟩ = some (.int .i64 l.old) ∧ w.cell? ⟨g, k + 6, none⟩ = some (.int .i64 l.far)
theorem LayOff.below {w w' : World} {g k : Nat} {l : Lay} (h : LayOff w g k l) (hb : Below w.heap.size w w') : LayOff w' g k l := by
  obtain ⟨c0, c1, c2, c3, c4, c5, c6⟩ := h
  have hg : g < w.heap.size := World.block_lt_of_cell? w _ c0
  exact ⟨(below_cell hb g _ hg).trans c0, (below_cell hb g _ hg).trans c1, (below_cell hb g _ hg).trans c2, (below_cell hb g _ hg).trans c3, (below_cell hb g _ hg).trans c4, (below_cell hb g _ hg).trans c5, (below_cell hb g _ hg).trans c6⟩

theorem LayAt.belowB {w w' : World} {g B : Nat} {l : Lay} (h : LayAt w g l) (hb : Below B w w') (hg : g < B) : LayAt w' g l := by
  obtain ⟨c0, c1, c2, c3, c4, c5, c6⟩ := h
  have e : ∀ i, w'.cell? ⟨g, i, none⟩ = w.cell? ⟨g, i, none⟩ := fun i => hb.cell (p := ⟨g, i, none⟩) hg
  exact ⟨(e 0).trans c0, (e 1).trans c1, (e 2).trans c2, (e 3).trans c3, (e 4).trans c4, (e 5).trans c5, (e 6).trans c6⟩
theorem TwoAt.belowB {w w' : World} {g B : Nat} {a b : Value} (h : TwoAt w g a b) (hb : Below B w w') (hg : g < B) : TwoAt w' g a b := by
  obtain ⟨c0, c1⟩ := h
  have e : ∀ i, w'.cell? ⟨g, i, none⟩ = w.cell? ⟨g, i, none⟩ := fun i => hb.cell (p := ⟨g, i, none⟩) hg
  exact ⟨(e 0).trans c0, (e 1).trans c1⟩

def PTL3 (n : Nat) (w : World) (i : Value) (wr : World) : Prop := ∃ k : Nat, k ≤ n ∧ i = .int .i64 (k : Int) ∧ Below w.heap.size w wr
theorem cells_keep {W w' : World} {b o : Nat} {v : Value} (h : W.cell? ⟨b, o, none⟩ = some v) (hb : Below W.heap.size W w') : w'.cell? ⟨b, o, none⟩ = some v :=
  (hb.cell (p := ⟨b, o, none⟩) (World.block_lt_of_cell? W _ h)).trans h

/-- Behind the switch: the third layout's numbers fit; below its block nothing has turned. -/
def PTCut (g : Nat) (W : World) (wx : World) : Prop := ∃ t : Lay, t.Wf ∧ LayAt wx (g + 1) t ∧ Below (g + 1) W wx
theorem pt_cut {g : Nat} {W : World} {l t : Lay} {f : Nat} {v : Value} (hk : W.heap[g + 1]? = some (.cells l.cells 24 (0, 0))) (ht : t.Wf) (h : l.cells.setIfInBounds f v = t.cells) : PTCut g W (W.setCell ⟨g + 1, f, none⟩ v) := by
  have hk2 := blk_set hk f v
  rw [h] at hk2
  exact ⟨t, ht, ⟨blk_cell hk2 0, blk_cell hk2 1, blk_cell hk2 2, blk_cell hk2 3, blk_cell hk2 4, blk_cell hk2 5, blk_cell hk2 6⟩, (Below.refl (g + 1) W).setCell (p := ⟨g + 1, f, none⟩) (Nat.le_refl _) v⟩

set_option maxRecDepth 100000 in
set_option maxHeartbeats 4000000 in
theorem ptells_walk (o : Lay) (b n0 n1 n2 n3 n4 n5 which x p0 i0 adr : Int) (w : World) (wo : o.Wf) (hb : 0 ≤ b ∧ b < 18446744073709551616) (g0 : -9223372036854775808 ≤ n0 ∧ n0 ≤ 9223372036854775807) (g1 : -9223372036854775808 ≤ n1 ∧ n1 ≤ 9223372036854775807) (g2 : -9223372036854775808 ≤ n2 ∧ n2 ≤ 9223372036854775807)
    (g3 : -9223372036854775808 ≤ n3 ∧ n3 ≤ 9223372036854775807) (g4 : -9223372036854775808 ≤ n4 ∧ n4 ≤ 9223372036854775807) (g5 : -9223372036854775808 ≤ n5 ∧ n5 ≤ 9223372036854775807) (hwh : -9223372036854775808 ≤ which ∧ which ≤ 9223372036854775807) (hx : -9223372036854775808 ≤ x ∧ x ≤ 9223372036854775807) (hp0 : -9223372036854775808 ≤ p0 ∧ p0 ≤ 9223372036854775807) (hi0 : -9223372036854775808 ≤ i0 ∧ i0 ≤ 9223372036854775807) (had : 0 ≤ adr ∧ adr < 18446744073709551616) :
    Calls Try.prog 3 #[.agg o.cells, .int .u64 b, .agg #[.int .i64 n0, .int .i64 n1, .int .i64 n2, .int .i64 n3, .int .i64 n4, .int .i64 n5], .int .i64 which, .int .i64 x, .agg #[.int .i64 p0, .int .i64 i0], .int .u64 adr] w (RetTrue w) := by
  have HLY := Lib.hid fun W => layout_any b n0 n1 n2 n3 n4 n5 W hb g0 g1 g2 g3 g4 g5
  have hok := layOf_ok b n0 n1 n2 n3 n4 n5
  obtain ⟨l, hl⟩ : ∃ l, l = layOf b n0 n1 n2 n3 n4 n5 := ⟨_, rfl⟩
  rw [← hl] at HLY hok
  clear hl hb g0 g1 g2 g3 g4 g5
  obtain ⟨hok, hcap⟩ := hok
  have hkb := pickI_b which 7 (by omega)
  have HPW := Lib.hid fun W => pick_any which 7 W hwh.1 hwh.2 (by omega) (by omega)
  obtain ⟨k7, hk7⟩ : ∃ k, k = pickI which 7 := ⟨_, rfl⟩
  rw [← hk7] at hkb HPW
  obtain ⟨hk0, hk1⟩ := hkb
  clear hk7 hwh
  have HPp := Lib.hid fun W => pick_any p0 6 W hp0.1 hp0.2 (by omega) (by omega)
  have HPi := Lib.hid fun W => pick_any i0 50 W hi0.1 hi0.2 (by omega) (by omega)
  have hpb := pickI_b p0 6 (by omega)
  have hib := pickI_b i0 50 (by omega)
  obtain ⟨p1, hp1⟩ : ∃ k, k = pickI p0 6 := ⟨_, rfl⟩
  obtain ⟨i1, hi1⟩ : ∃ k, k = pickI i0 50 := ⟨_, rfl⟩
  rw [← hp1] at hpb HPp
  rw [← hi1] at hib HPi
  obtain ⟨hpb1, hpb2⟩ := hpb
  obtain ⟨hib1, hib2⟩ := hib
  have HP0 := Lib.hid hp0
  have HI0 := Lib.hid hi0
  clear hp1 hi1 hp0 hi0
  have HOK0 := Lib.hid hok
  have HWO := Lib.hid wo
  have HX := Lib.hid hx
  have HAD := Lib.hid had
  clear hx wo
  have k1 : 1 ≤ l.base := hok.1
  have k2 : 0 ≤ l.cap := hok.2.1
  have k4 : l.base + 2 * l.cap ≤ 9223372036854775808 := hok.2.2.2.1
  have k4' : l.base ≤ 9223372036854775808 - 2 * l.cap := by omega
  have kl : 0 ≤ l.low ∧ l.low ≤ 40 ∧ 0 ≤ l.high ∧ l.high ≤ 40 ∧ 0 ≤ l.old ∧ l.old ≤ 40 ∧ 0 ≤ l.far ∧ l.far ≤ 40 ∧ l.low + l.high ≤ l.cap ∧ l.old + l.far ≤ l.cap := by
    obtain ⟨_, _, _, _, _, a, b, c, d, e, f⟩ := hok
    omega
  obtain ⟨kl1, kl2, kl3, kl4, kl5, kl6, kl7, kl8, kl9, kl10⟩ := kl
  have HOK := Lib.hid hok
  clear hok
  simp only [Lay.cells] at HLY ⊢
  go_enter Try.func3, Try.ntmps3
  go_wp2_with fail
  refine (awake7_any _).mono ?_
  intro e w1 hr
  obtain ⟨rfl, z, rfl⟩ := hr.later
  have hbx : Below w.heap.size w z.w := bl_step (bl_alloc (bl_alloc (bl_alloc (bl_refl w) _) _) _) z.below
  go_wp2_with fail
  refine (HLY.out _).mono ?_
  intro e w2 hr2
  obtain ⟨rfl, hb2⟩ := hr2.both
  have hbw2 := bl_step hbx hb2
  have ho2 : LayAt w2 w.heap.size o := by
    have h0 := LayAt.lit w o 24
    exact (((h0.alloc _).alloc _).below z.below).below hb2
  have hp2 : TwoAt w2 (w.heap.size + 1 + 1) (.int .i64 p0) (.int .i64 i0) := by
    have h0 := (TwoAt.lit ((w.alloc (.cells #[.int .u64 o.base, .int .i64 o.cap, .int .i64 o.to, .int .i64 o.low, .int .i64 o.high, .int .i64 o.old, .int .i64 o.far] 24)).alloc (.cells #[.int .i64 n0, .int .i64 n1, .int .i64 n2, .int .i64 n3, .int .i64 n4, .int .i64 n5] 25)) (.int .i64 p0) (.int .i64 i0) 27)
    rw [show ((w.alloc (.cells #[.int .u64 o.base, .int .i64 o.cap, .int .i64 o.to, .int .i64 o.low, .int .i64 o.high, .int .i64 o.old, .int .i64 o.far] 24)).alloc (.cells #[.int .i64 n0, .int .i64 n1, .int .i64 n2, .int .i64 n3, .int .i64 n4, .int .i64 n5] 25)).heap.size = w.heap.size + 1 + 1 by simp] at h0
    exact ((h0.below z.below).below hb2)
  have hl := LayAt.lit w2 l 24
  have hbw3 : Below w.heap.size w (w2.alloc (.cells l.cells 24)) := bl_alloc hbw2 _
  have hw2 : w.heap.size + 1 + 1 + 1 ≤ w2.heap.size := by have h1 := z.below.size; have h2 := hb2.size; simp at h1; omega
  simp only [Lay.cells] at hl hbw3
  have hl4 := hl.alloc (.cells #[.int .u64 l.base, .int .i64 l.cap, .int .i64 l.to, .int .i64 l.low, .int .i64 l.high, .int .i64 l.old, .int .i64 l.far] 24)
  have ho4 := (ho2.alloc (.cells #[.int .u64 l.base, .int .i64 l.cap, .int .i64 l.to, .int .i64 l.low, .int .i64 l.high, .int .i64 l.old, .int .i64 l.far] 24)).alloc (.cells #[.int .u64 l.base, .int .i64 l.cap, .int .i64 l.to, .int .i64 l.low, .int .i64 l.high, .int .i64 l.old, .int .i64 l.far] 24)
  have hp4 := (hp2.alloc (.cells #[.int .u64 l.base, .int .i64 l.cap, .int .i64 l.to, .int .i64 l.low, .int .i64 l.high, .int .i64 l.old, .int .i64 l.far] 24)).alloc (.cells #[.int .u64 l.base, .int .i64 l.cap, .int .i64 l.to, .int .i64 l.low, .int .i64 l.high, .int .i64 l.old, .int .i64 l.far] 24)
  have hbw4 := bl_alloc hbw3 (.cells #[.int .u64 l.base, .int .i64 l.cap, .int .i64 l.to, .int .i64 l.low, .int .i64 l.high, .int .i64 l.old, .int .i64 l.far] 24)
  have hk4 : ((w2.alloc (.cells #[.int .u64 l.base, .int .i64 l.cap, .int .i64 l.to, .int .i64 l.low, .int .i64 l.high, .int .i64 l.old, .int .i64 l.far] 24)).alloc (.cells #[.int .u64 l.base, .int .i64 l.cap, .int .i64 l.to, .int .i64 l.low, .int .i64 l.high, .int .i64 l.old, .int .i64 l.far] 24)).heap[w2.heap.size + 1]? = some (.cells #[.int .u64 l.base, .int .i64 l.cap, .int .i64 l.to, .int .i64 l.low, .int .i64 l.high, .int .i64 l.old, .int .i64 l.far] 24 (0, 0)) := by
    rw [show w2.heap.size + 1 = (w2.alloc (.cells #[.int .u64 l.base, .int .i64 l.cap, .int .i64 l.to, .int .i64 l.low, .int .i64 l.high, .int .i64 l.old, .int .i64 l.far] 24)).heap.size by simp]
    exact heap_alloc_new _ _
  clear hr hr2 hb2 hbx hbw2 z HLY hl hbw3 ho2 hp2
  go_wp2_with fail
  obtain ⟨W4, hW4⟩ : ∃ W4, W4 = (w2.alloc (.cells #[.int .u64 l.base, .int .i64 l.cap, .int .i64 l.to, .int .i64 l.low, .int .i64 l.high, .int .i64 l.old, .int .i64 l.far] 24)).alloc (.cells #[.int .u64 l.base, .int .i64 l.cap, .int .i64 l.to, .int .i64 l.low, .int .i64 l.high, .int .i64 l.old, .int .i64 l.far] 24) := ⟨_, rfl⟩
  rw [← hW4] at hl4 ho4 hp4 hbw4 hk4 ⊢
  obtain ⟨g, hg⟩ : ∃ g, g = w2.heap.size := ⟨_, rfl⟩
  have hs4 : W4.heap.size = g + 1 + 1 := by rw [hW4, hg]; simp
  rw [← hg] at hl4 hk4 hw2 ⊢
  clear hg hW4
  refine (HPW.out _).mono ?_
  rintro e w5 ⟨rfl, rfl⟩
  go_upto_block 0 with fail
  have hm4 : LayAt W4 (g + 1) l := ⟨blk_cell hk4 0, blk_cell hk4 1, blk_cell hk4 2, blk_cell hk4 3, blk_cell hk4 4, blk_cell hk4 5, blk_cell hk4 6⟩
  have hfz := fun i => blk_frozen hk4 i
  go_cut [45] (fun _ wx => PTCut g W4 wx)
  case first =>
    clear HPW
    obtain rfl | rfl | rfl | rfl | rfl | rfl | rfl : k7 = 0 ∨ k7 = 1 ∨ k7 = 2 ∨ k7 = 3 ∨ k7 = 4 ∨ k7 = 5 ∨ k7 = 6 := by omega
    · obtain ⟨d0, d1, d2, d3, d4, d5, d6⟩ := id hm4
      go_wp2_with fail
      go_meet
      exact pt_cut (t := ⟨l.base, x, l.to, l.low, l.high, l.old, l.far⟩) (f := 1) hk4 (by have h1 := HX.out; have h2 := HAD.out; have h3 := ok_wf HOK0.out; unfold Lay.Wf at h3 ⊢; simp only; omega) rfl
    · obtain ⟨d0, d1, d2, d3, d4, d5, d6⟩ := id hm4
      go_wp2_with fail
      go_meet
      exact pt_cut (t := ⟨l.base, l.cap, x, l.low, l.high, l.old, l.far⟩) (f := 2) hk4 (by have h1 := HX.out; have h2 := HAD.out; have h3 := ok_wf HOK0.out; unfold Lay.Wf at h3 ⊢; simp only; omega) rfl
    · obtain ⟨d0, d1, d2, d3, d4, d5, d6⟩ := id hm4
      go_wp2_with fail
      go_meet
      exact pt_cut (t := ⟨l.base, l.cap, l.to, x, l.high, l.old, l.far⟩) (f := 3) hk4 (by have h1 := HX.out; have h2 := HAD.out; have h3 := ok_wf HOK0.out; unfold Lay.Wf at h3 ⊢; simp only; omega) rfl
    · obtain ⟨d0, d1, d2, d3, d4, d5, d6⟩ := id hm4
      go_wp2_with fail
      go_meet
      exact pt_cut (t := ⟨l.base, l.cap, l.to, l.low, x, l.old, l.far⟩) (f := 4) hk4 (by have h1 := HX.out; have h2 := HAD.out; have h3 := ok_wf HOK0.out; unfold Lay.Wf at h3 ⊢; simp only; omega) rfl
    · obtain ⟨d0, d1, d2, d3, d4, d5, d6⟩ := id hm4
      go_wp2_with fail
      go_meet
      exact pt_cut (t := ⟨l.base, l.cap, l.to, l.low, l.high, x, l.far⟩) (f := 5) hk4 (by have h1 := HX.out; have h2 := HAD.out; have h3 := ok_wf HOK0.out; unfold Lay.Wf at h3 ⊢; simp only; omega) rfl
    · obtain ⟨d0, d1, d2, d3, d4, d5, d6⟩ := id hm4
      go_wp2_with fail
      go_meet
      exact pt_cut (t := ⟨l.base, l.cap, l.to, l.low, l.high, l.old, x⟩) (f := 6) hk4 (by have h1 := HX.out; have h2 := HAD.out; have h3 := ok_wf HOK0.out; unfold Lay.Wf at h3 ⊢; simp only; omega) rfl
    · obtain ⟨d0, d1, d2, d3, d4, d5, d6⟩ := id hm4
      go_wp2_with fail
      go_meet
      exact pt_cut (t := ⟨adr, l.cap, l.to, l.low, l.high, l.old, l.far⟩) (f := 0) hk4 (by have h1 := HX.out; have h2 := HAD.out; have h3 := ok_wf HOK0.out; unfold Lay.Wf at h3 ⊢; simp only; omega) rfl
  case rest =>
    obtain ⟨t, wt, ht5, hb5⟩ := hcut
    clear hk4 hm4 hfz HPW
    have hl5 := hl4.belowB hb5 (by omega)
    have ho5 := ho4.belowB hb5 (by omega)
    have hp5 := hp4.belowB hb5 (by omega)
    have hbw5 : Below w.heap.size w wc := hbw4.trans (hb5.mono (by omega))
    have wo := HWO.out
    have wl := ok_wf HOK0.out
    obtain ⟨x0, x1, x2, x3, x4, x5, x6⟩ := id ho5
    obtain ⟨y0, y1, y2, y3, y4, y5, y6⟩ := id hl5
    obtain ⟨z0, z1, z2, z3, z4, z5, z6⟩ := id ht5
    have hl6 := hl5.alloc (.cells #[.int .u64 o.base, .int .i64 o.cap, .int .i64 o.to, .int .i64 o.low, .int .i64 o.high, .int .i64 o.old, .int .i64 o.far, .int .u64 l.base, .int .i64 l.cap, .int .i64 l.to, .int .i64 l.low, .int .i64 l.high, .int .i64 l.old, .int .i64 l.far, .int .u64 t.base, .int .i64 t.cap, .int .i64 t.to, .int .i64 t.low, .int .i64 t.high, .int .i64 t.old, .int .i64 t.far] 24)
    have hp6 := hp5.alloc (.cells #[.int .u64 o.base, .int .i64 o.cap, .int .i64 o.to, .int .i64 o.low, .int .i64 o.high, .int .i64 o.old, .int .i64 o.far, .int .u64 l.base, .int .i64 l.cap, .int .i64 l.to, .int .i64 l.low, .int .i64 l.high, .int .i64 l.old, .int .i64 l.far, .int .u64 t.base, .int .i64 t.cap, .int .i64 t.to, .int .i64 t.low, .int .i64 t.high, .int .i64 t.old, .int .i64 t.far] 24)
    have hbw6 := bl_alloc hbw5 (.cells #[.int .u64 o.base, .int .i64 o.cap, .int .i64 o.to, .int .i64 o.low, .int .i64 o.high, .int .i64 o.old, .int .i64 o.far, .int .u64 l.base, .int .i64 l.cap, .int .i64 l.to, .int .i64 l.low, .int .i64 l.high, .int .i64 l.old, .int .i64 l.far, .int .u64 t.base, .int .i64 t.cap, .int .i64 t.to, .int .i64 t.low, .int .i64 t.high, .int .i64 t.old, .int .i64 t.far] 24)
    have hq6 : ∀ k : Nat, k < 3 → ∃ q : Lay, q.Wf ∧ LayOff (wc.alloc (.cells #[.int .u64 o.base, .int .i64 o.cap, .int .i64 o.to, .int .i64 o.low, .int .i64 o.high, .int .i64 o.old, .int .i64 o.far, .int .u64 l.base, .int .i64 l.cap, .int .i64 l.to, .int .i64 l.low, .int .i64 l.high, .int .i64 l.old, .int .i64 l.far, .int .u64 t.base, .int .i64 t.cap, .int .i64 t.to, .int .i64 t.low, .int .i64 t.high, .int .i64 t.old, .int .i64 t.far] 24)) wc.heap.size (k * 7) q := fun k hk => by
      have hc := fun i => blk_cell (heap_alloc_new wc (.cells #[.int .u64 o.base, .int .i64 o.cap, .int .i64 o.to, .int .i64 o.low, .int .i64 o.high, .int .i64 o.old, .int .i64 o.far, .int .u64 l.base, .int .i64 l.cap, .int .i64 l.to, .int .i64 l.low, .int .i64 l.high, .int .i64 l.old, .int .i64 l.far, .int .u64 t.base, .int .i64 t.cap, .int .i64 t.to, .int .i64 t.low, .int .i64 t.high, .int .i64 t.old, .int .i64 t.far] 24)) i
      obtain rfl | rfl | rfl : k = 0 ∨ k = 1 ∨ k = 2 := by omega
      · exact ⟨o, wo, hc 0, hc 1, hc 2, hc 3, hc 4, hc 5, hc 6⟩
      · exact ⟨l, wl, hc 7, hc 8, hc 9, hc 10, hc 11, hc 12, hc 13⟩
      · exact ⟨t, wt, hc 14, hc 15, hc 16, hc 17, hc 18, hc 19, hc 20⟩
    have HQ6 := Lib.hid hq6
    clear hl4 ho4 hp4 hbw4 hb5 ht5 ho5 hl5 hp5 hbw5 hq6 wo wl wt
    go_wp2_with fail
    clear x0 x1 x2 x3 x4 x5 x6 y0 y1 y2 y3 y4 y5 y6 z0 z1 z2 z3 z4 z5 z6
    obtain ⟨W6, hW6⟩ : ∃ W6, W6 = wc.alloc (.cells #[.int .u64 o.base, .int .i64 o.cap, .int .i64 o.to, .int .i64 o.low, .int .i64 o.high, .int .i64 o.old, .int .i64 o.far, .int .u64 l.base, .int .i64 l.cap, .int .i64 l.to, .int .i64 l.low, .int .i64 l.high, .int .i64 l.old, .int .i64 l.far, .int .u64 t.base, .int .i64 t.cap, .int .i64 t.to, .int .i64 t.low, .int .i64 t.high, .int .i64 t.old, .int .i64 t.far] 24) := ⟨_, rfl⟩
    rw [← hW6] at hl6 hp6 hbw6 HQ6 ⊢
    clear hW6
    obtain ⟨s, hs⟩ : ∃ s, s = wc.heap.size := ⟨_, rfl⟩
    rw [← hs] at HQ6 ⊢
    clear hs
    go_loopw [74] (fun i wr => PTL3 3 W6 i wr) (fun i _ => 3 - (intOf i).toNat)
    case atStart => exact ⟨0, by omega, rfl, bl_refl _⟩
    case round =>
      obtain ⟨k, hk, rfl, hb⟩ := hrel
      have hbw7 := bl_step hbw6 hb
      obtain ⟨w8', rfl⟩ : ∃ w8' : World, w8' = wr := ⟨_, rfl⟩
      by_cases hlt : k < 3
      · obtain ⟨q, wq, hq⟩ := HQ6.out k hlt
        have hq7 := hq.below hb
        have hl7 := hl6.below hb
        have hp7 := hp6.below hb
        have HFL := Lib.hid fun W => flip_any q W wq
        have HRF := Lib.hid fun W => rflip_any q W wq
        have HRT := Lib.hid fun W => right_any q W wq
        have HRR := Lib.hid fun W => rright_any q W wq
        have HRM := Lib.hid fun W => room_any q W wq
        have HRO := Lib.hid fun W => rroom_any q W wq
        have HAD1 := Lib.hid fun p i W a b => address_any q p i W wq a b
        have HAD2 := Lib.hid fun p i W a b => raddress_any q p i W wq a b
        have HFN1 := Lib.hid fun y W a b => find_any q y W wq a b
        have HFN2 := Lib.hid fun y W a b => rfind_any q y W wq a b
        have hqb : 0 ≤ q.base ∧ q.base < 18446744073709551616 := wq.1
        obtain ⟨F, hF⟩ : ∃ F, F = flipL q := ⟨_, rfl⟩
        obtain ⟨E1, hE1⟩ : ∃ E, E = okE q := ⟨_, rfl⟩
        obtain ⟨R, hR⟩ : ∃ R, R = roomL q := ⟨_, rfl⟩
        obtain ⟨B, hB⟩ : ∃ B, B = decide q.Ok := ⟨_, rfl⟩
        rw [← hF, ← hE1] at HFL HRF
        rw [← hB] at HRT HRR
        rw [← hR] at HRM HRO
        simp only [Lay.cells] at HFL HRF HRT HRR HRM HRO HAD1 HAD2 HFN1 HFN2
        obtain ⟨c0, c1, c2, c3, c4, c5, c6⟩ := id hq7
        have he := LayAt.lit w8' q 24
        have hl8 := hl7.alloc (.cells q.cells 24)
        have hp8 := hp7.alloc (.cells q.cells 24)
        have hbw8 := bl_alloc hbw7 (.cells q.cells 24)
        have hb8 := bl_alloc hb (.cells q.cells 24)
        simp only [Lay.cells] at he hl8 hp8 hbw8 hb8
        clear hF hE1 hR hB hq hq7 hl7 hp7 hbw7 hb wq hk
        go_wp2_with fail
        clear c0 c1 c2 c3 c4 c5 c6
        refine (HFL.out _).mono ?_
        intro e w9 hr
        obtain ⟨rfl, hb9⟩ := hr.both
        have he9 := he.below hb9
        have hl9 := hl8.below hb9
        have hp9 := hp8.below hb9
        have hbw9 := bl_step hbw8 hb9
        have hbb9 := bl_step hb8 hb9
        have hF9 := LayAt.lit w9 F 24
        have he10 := he9.alloc (.cells F.cells 24)
        have hl10 := hl9.alloc (.cells F.cells 24)
        have hp10 := hp9.alloc (.cells F.cells 24)
        have hbw10 := bl_alloc hbw9 (.cells F.cells 24)
        have hbb10 := bl_alloc hbb9 (.cells F.cells 24)
        simp only [Lay.cells] at hF9 he10 hl10 hp10 hbw10 hbb10
        clear he hl8 hp8 hbw8 hb8 hb9 hl9 hp9 hbw9 hbb9 hr
        obtain ⟨c0, c1, c2, c3, c4, c5, c6⟩ := id he9
        have hez : w8'.heap.size < w9.heap.size := World.block_lt_of_cell? _ _ c0
        go_wp2_with fail
        clear c0 c1 c2 c3 c4 c5 c6
        refine (HRF.out _).mono ?_
        intro e w10 hr
        obtain ⟨rfl, hb10⟩ := hr.both
        have hG10 := LayAt.lit w10 F 24
        have he11 := (he10.below hb10).alloc (.cells F.cells 24)
        have hl11 := (hl10.below hb10).alloc (.cells F.cells 24)
        have hp11 := (hp10.below hb10).alloc (.cells F.cells 24)
        have hF11 := (hF9.below hb10).alloc (.cells F.cells 24)
        have hbw11 := bl_alloc (bl_step hbw10 hb10) (.cells F.cells 24)
        have hbb11 := bl_alloc (bl_step hbb10 hb10) (.cells F.cells 24)
        simp only [Lay.cells] at hG10 he11 hl11 hp11 hF11 hbw11 hbb11
        clear hF9 he10 hl10 hp10 hbw10 hbb10 he9 hb10 hr hez
        go_wp2_with fail
        obtain ⟨W11, hW11⟩ : ∃ W, W = w10.alloc (.cells #[.int .u64 F.base, .int .i64 F.cap, .int .i64 F.to, .int .i64 F.low, .int .i64 F.high, .int .i64 F.old, .int .i64 F.far] 24) := ⟨_, rfl⟩
        rw [← hW11] at hG10 he11 hl11 hp11 hF11 hbw11 hbb11 ⊢
        clear hW11
        obtain ⟨ge, hge⟩ : ∃ s, s = w8'.heap.size := ⟨_, rfl⟩
        obtain ⟨gF, hgF⟩ : ∃ s, s = w9.heap.size := ⟨_, rfl⟩
        obtain ⟨gG, hgG⟩ : ∃ s, s = w10.heap.size := ⟨_, rfl⟩
        rw [← hge] at he11 ⊢
        rw [← hgF] at hF11 ⊢
        rw [← hgG] at hG10 ⊢
        clear hge hgF hgG
        obtain ⟨c0, c1, c2, c3, c4, c5, c6⟩ := id he11
        obtain ⟨f0, f1, f2, f3, f4, f5, f6⟩ := id hF11
        obtain ⟨d0, d1, d2, d3, d4, d5, d6⟩ := id hG10
        have ze : ge < W11.heap.size := World.block_lt_of_cell? _ _ c0
        have zF : gF < W11.heap.size := World.block_lt_of_cell? _ _ f0
        have zG : gG < W11.heap.size := World.block_lt_of_cell? _ _ d0
        refine wp_region_later (by kernel_rfl) (by kernel_rfl) ?_
        repeat (go_big_quiet_step ((first | with_reducible exact later_retB (HRT.out _) | with_reducible exact later_retB (HRR.out _) | with_reducible exact later_retB (HRM.out _) | with_reducible exact later_retB (HRO.out _))))
        refine wpQuiet_nil ?_
        intro _ hw'
        obtain ⟨y, hw''⟩ := hw'
        subst hw''
        have he12 := he11.below y.below
        have hl12 := hl11.below y.below
        have hp12 := hp11.below y.below
        have hbw12 := bl_step hbw11 y.below
        have hbb12 := bl_step hbb11 y.below
        revert he12 hl12 hp12 hbw12 hbb12
        obtain ⟨W12, hW12⟩ : ∃ W, W = y.w := ⟨_, rfl⟩
        rw [← hW12]
        intro he12 hl12 hp12 hbw12 hbb12
        clear hW12 y c0 c1 c2 c3 c4 c5 c6 f0 f1 f2 f3 f4 f5 f6 d0 d1 d2 d3 d4 d5 d6 ze zF zG he11 hl11 hp11 hF11 hG10 hbw11 hbb11 HFL HRF HRT HRR HRM HRO
        obtain ⟨q0, q1⟩ := id hp12
        go_wp2_with fail
        have hwi : IntKind.i64.wrap (i1 - 2) = i1 - 2 := IntWalk.i64_in _ (by omega)
        go_region_held3 (fun w' => Below W12.heap.size W12 w' ∧ w'.cell? ⟨w.heap.size + 1 + 1, 0, none⟩ = some (.int .i64 p0) ∧ w'.cell? ⟨w.heap.size + 1 + 1, 1, none⟩ = some (.int .i64 i0))
          ((go_split_ands; refine ⟨?_, ?_, ?_⟩ <;> first | assumption | exact Below.drew (bl_refl _) | exact bl_alloc (by assumption) _ | exact cells_keep (by assumption) (bl_alloc (bl_refl _) _) | (simp [go_sem]; done)))
          ((first | (go_at_call 17; with_reducible refine (HPp.out _).mono ?_; rintro e w1 ⟨rfl, rfl⟩) | (go_at_call 17; with_reducible refine (HPi.out _).mono ?_; rintro e w1 ⟨rfl, rfl⟩)))
        have hPP : ∀ k : Nat, k < 2 → ∃ P I : Int, (-9223372036854775808 ≤ P ∧ P ≤ 9223372036854775807) ∧ (-9223372036854775808 ≤ I ∧ I ≤ 9223372036854775807) ∧
            (W12.alloc (.cells #[.int .i64 p0, .int .i64 i0, .int .i64 p1, .int .i64 (i1 - 2)] 27)).drew.cell? ⟨W12.heap.size, k * 2, none⟩ = some (.int .i64 P) ∧ (W12.alloc (.cells #[.int .i64 p0, .int .i64 i0, .int .i64 p1, .int .i64 (i1 - 2)] 27)).drew.cell? ⟨W12.heap.size, k * 2 + 1, none⟩ = some (.int .i64 I) := fun k hk => by
          have hc := fun i => blk_cell (heap_alloc_new W12 (.cells #[.int .i64 p0, .int .i64 i0, .int .i64 p1, .int .i64 (i1 - 2)] 27)) i
          obtain rfl | rfl : k = 0 ∨ k = 1 := by omega
          · exact ⟨p0, i0, HP0.out, HI0.out, hc 0, hc 1⟩
          · exact ⟨p1, i1 - 2, by omega, by omega, hc 2, hc 3⟩
        have hd := Below.drew (bl_refl (W12.alloc (.cells #[.int .i64 p0, .int .i64 i0, .int .i64 p1, .int .i64 (i1 - 2)] 27)))
        have he13 := (he12.alloc (.cells #[.int .i64 p0, .int .i64 i0, .int .i64 p1, .int .i64 (i1 - 2)] 27)).below hd
        have hl13 := (hl12.alloc (.cells #[.int .i64 p0, .int .i64 i0, .int .i64 p1, .int .i64 (i1 - 2)] 27)).below hd
        have hbw13 := bl_step (bl_alloc hbw12 (.cells #[.int .i64 p0, .int .i64 i0, .int .i64 p1, .int .i64 (i1 - 2)] 27)) hd
        have hbb13 := bl_step (bl_alloc hbb12 (.cells #[.int .i64 p0, .int .i64 i0, .int .i64 p1, .int .i64 (i1 - 2)] 27)) hd
        have HPP := Lib.hid hPP
        clear hwi hd hPP he12 hl12 hp12 hbw12 hbb12 q0 q1
        go_wp2_with fail
        obtain ⟨W13, hW13⟩ : ∃ W, W = (W12.alloc (.cells #[.int .i64 p0, .int .i64 i0, .int .i64 p1, .int .i64 (i1 - 2)] 27)).drew := ⟨_, rfl⟩
        rw [← hW13] at he13 hl13 hbw13 hbb13 HPP ⊢
        clear hW13
        obtain ⟨s2, hs2⟩ : ∃ s, s = W12.heap.size := ⟨_, rfl⟩
        rw [← hs2] at HPP ⊢
        clear hs2
        go_loopw [121] (fun i wr => PTL3 2 W13 i wr) (fun i _ => 2 - (intOf i).toNat)
        case atStart => exact ⟨0, by omega, rfl, bl_refl _⟩
        case round =>
          obtain ⟨k2, hk2, rfl, hb⟩ := hrel
          obtain ⟨w14, rfl⟩ : ∃ w14 : World, w14 = wr := ⟨_, rfl⟩
          have he14 := he13.below hb
          by_cases hlt2 : k2 < 2
          · obtain ⟨P, I, hP, hI, hcP, hcI⟩ := HPP.out k2 hlt2
            have gP := cells_keep hcP hb
            have gI := cells_keep hcI hb
            have HA1 := Lib.hid fun W => HAD1.out P I W hP hI
            have HA2 := Lib.hid fun W => HAD2.out P I W hP hI
            obtain ⟨X, hX⟩ : ∃ X, X = adrA q P I := ⟨_, rfl⟩
            obtain ⟨E, hE⟩ : ∃ E, E = adrE q P I := ⟨_, rfl⟩
            rw [← hX, ← hE] at HA1 HA2
            have he15 := he14.alloc (.cells #[.int .i64 P, .int .i64 I] 27)
            have ht15 := TwoAt.lit w14 (.int .i64 P) (.int .i64 I) 27
            obtain ⟨c0, c1, c2, c3, c4, c5, c6⟩ := id he14
            have hez : ge < w14.heap.size := World.block_lt_of_cell? _ _ c0
            clear hcP hcI hX hE hP hI
            go_wp2_with fail
            refine (HA1.out _).mono ?_
            intro e w15 hr
            obtain ⟨rfl, hb15⟩ := hr.both
            have he16 := he15.below hb15
            have ht16 := ht15.below hb15
            clear c0 c1 c2 c3 c4 c5 c6 hez gP gI
            obtain ⟨c0, c1, c2, c3, c4, c5, c6⟩ := id he16
            obtain ⟨t0, t1⟩ := id ht16
            go_wp2_with fail
            refine (HA2.out _).mono ?_
            intro e w16 hr16
            obtain ⟨rfl, hb16⟩ := hr16.both
            go_wp2
            exact ⟨⟨k2 + 1, by omega, by go_num, bl_step (bl_step (bl_alloc hb _) hb15) hb16⟩, by simp [intOf]; omega⟩
          · have hl14 := hl13.below hb
            have hbw14 := bl_step hbw13 hb
            have hbb14 := bl_step hbb13 hb
            have had1 : 0 ≤ adr % 90 ∧ adr % 90 < 90 := ⟨Int.emod_nonneg _ (by omega), Int.emod_lt_of_pos _ (by omega)⟩
            have had2 : 0 ≤ adr % 5 ∧ adr % 5 < 5 := ⟨Int.emod_nonneg _ (by omega), Int.emod_lt_of_pos _ (by omega)⟩
            obtain ⟨m1, m2⟩ := had1
            obtain ⟨m3, m4⟩ := had2
            obtain ⟨a1, a2⟩ := had
            obtain ⟨b1, b2⟩ := hqb
            obtain ⟨Y2, hY2⟩ : ∃ Y, Y = IntKind.u64.wrap (l.base - adr % 5) := ⟨_, rfl⟩
            obtain ⟨Y3, hY3⟩ : ∃ Y, Y = IntKind.u64.wrap (q.base + adr % 90) := ⟨_, rfl⟩
            have y2b : 0 ≤ Y2 ∧ Y2 < 18446744073709551616 := by rw [hY2, IntKind.wrap_u64]; omega
            have y3b : 0 ≤ Y3 ∧ Y3 < 18446744073709551616 := by rw [hY3, IntKind.wrap_u64]; omega
            replace hY2 := hY2.symm
            replace hY3 := hY3.symm
            obtain ⟨c0, c1, c2, c3, c4, c5, c6⟩ := id he14
            obtain ⟨d0, d1, d2, d3, d4, d5, d6⟩ := id hl14
            have hYY : ∀ k : Nat, k < 4 → ∃ Y : Int, 0 ≤ Y ∧ Y < 18446744073709551616 ∧ (w14.alloc (.cells #[.int .u64 adr, .int .u64 (l.base + adr % 90), .int .u64 Y2, .int .u64 Y3] 22)).cell? ⟨w14.heap.size, k, none⟩ = some (.int .u64 Y) := fun k hk => by
              have hc := fun i => blk_cell (heap_alloc_new w14 (.cells #[.int .u64 adr, .int .u64 (l.base + adr % 90), .int .u64 Y2, .int .u64 Y3] 22)) i
              obtain rfl | rfl | rfl | rfl : k = 0 ∨ k = 1 ∨ k = 2 ∨ k = 3 := by omega
              · exact ⟨adr, a1, a2, hc 0⟩
              · exact ⟨l.base + adr % 90, by omega, by omega, hc 1⟩
              · exact ⟨Y2, y2b.1, y2b.2, hc 2⟩
              · exact ⟨Y3, y3b.1, y3b.2, hc 3⟩
            have HYY := Lib.hid hYY
            have he17 := he14.alloc (.cells #[.int .u64 adr, .int .u64 (l.base + adr % 90), .int .u64 Y2, .int .u64 Y3] 22)
            have hbw17 := bl_alloc hbw14 (.cells #[.int .u64 adr, .int .u64 (l.base + adr % 90), .int .u64 Y2, .int .u64 Y3] 22)
            have hbb17 := bl_alloc hbb14 (.cells #[.int .u64 adr, .int .u64 (l.base + adr % 90), .int .u64 Y2, .int .u64 Y3] 22)
            clear hYY he14 hl14 hbw14 hbb14 hb he13 hl13 hbw13 hbb13 y2b y3b
            go_wp2_with fail
            clear hY2 hY3 c0 c1 c2 c3 c4 c5 c6 d0 d1 d2 d3 d4 d5 d6 m1 m2 m3 m4
            obtain ⟨W17, hW17⟩ : ∃ W, W = w14.alloc (.cells #[.int .u64 adr, .int .u64 (l.base + adr % 90), .int .u64 Y2, .int .u64 Y3] 22) := ⟨_, rfl⟩
            rw [← hW17] at he17 hbw17 hbb17 HYY ⊢
            clear hW17
            obtain ⟨s3, hs3⟩ : ∃ s, s = w14.heap.size := ⟨_, rfl⟩
            rw [← hs3] at HYY ⊢
            clear hs3
            go_loopw [164] (fun i wr => PTL3 4 W17 i wr) (fun i _ => 4 - (intOf i).toNat)
            case atStart => exact ⟨0, by omega, rfl, bl_refl _⟩
            case round =>
              obtain ⟨k3, hk3, rfl, hb⟩ := hrel
              obtain ⟨w18, rfl⟩ : ∃ w18 : World, w18 = wr := ⟨_, rfl⟩
              by_cases hlt3 : k3 < 4
              · obtain ⟨Y, hy1, hy2, hcY⟩ := HYY.out k3 hlt3
                have gY := cells_keep hcY hb
                have he18 := he17.below hb
                have hF1 := fun W => HFN1.out Y W hy1 hy2
                have hF2 := fun W => HFN2.out Y W hy1 hy2
                obtain ⟨P3, I3, E3, hV⟩ : ∃ P I E : Int, fndV q Y = .tuple #[.agg #[.int .i64 P, .int .i64 I], .int .i64 E] := ⟨_, _, _, rfl⟩
                rw [hV] at hF1 hF2
                have HF1 := Lib.hid hF1
                have HF2 := Lib.hid hF2
                obtain ⟨c0, c1, c2, c3, c4, c5, c6⟩ := id he18
                clear hF1 hF2 hV hcY
                go_wp2_with fail
                refine (HF1.out _).mono ?_
                intro e w19 hr
                obtain ⟨rfl, hb19⟩ := hr.both
                have he19 := he18.below hb19
                have ht19 := TwoAt.lit w19 (.int .i64 P3) (.int .i64 I3) 27
                clear c0 c1 c2 c3 c4 c5 c6 gY
                obtain ⟨c0, c1, c2, c3, c4, c5, c6⟩ := id he19
                have hez : ge < w19.heap.size := World.block_lt_of_cell? _ _ c0
                go_wp2_with fail
                refine (HF2.out _).mono ?_
                intro e w20 hr20
                obtain ⟨rfl, hb20⟩ := hr20.both
                have ht20 := ht19.below hb20
                clear c0 c1 c2 c3 c4 c5 c6 hez
                obtain ⟨t0, t1⟩ := id ht20
                have htz : w19.heap.size < w20.heap.size := World.block_lt_of_cell? _ _ t0
                go_wp2
                exact ⟨⟨k3 + 1, by omega, by go_num, bl_alloc (bl_step (bl_alloc (bl_step hb hb19) _) hb20) _⟩, by simp [intOf]; omega⟩
              · go_wp2
                exact ⟨⟨k + 1, by omega, by go_num, bl_step hbb17 hb⟩, by simp [intOf]; omega⟩
      · go_wp2
        go_ret
        exact ⟨rfl, hbw7⟩
end Go.Proofs.Ytappejihclmjmaa
