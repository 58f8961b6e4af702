/-
  The helper of layer 10's laws: Heap. Conditions: integers that fit; a slice that reads as numbers of 64 bits.
-/
import Derived.Test.YtappejihclmjmaaHH
namespace Go.Proofs.Ytappejihclmjmaa
open Go.RowKit

theorem LayAt.set {w : World} {g : Nat} {l : Lay} (h : LayAt w g l) {p : Addr} (hp : g ≠ p.block) (u : Value) : LayAt (w.setCell p u) g l := by
  obtain ⟨c0, c1, c2, c3, c4, c5, c6⟩ := h
  have e : ∀ i, (w.setCell p u).cell? ⟨g, i, none⟩ = w.cell? ⟨g, i, none⟩ := fun i => World.cell?_setCell_other w p ⟨g, i, none⟩ u (fun e => by subst e; exact hp rfl)
  exact ⟨(e 0).trans c0, (e 1).trans c1, (e 2).trans c2, (e 3).trans c3, (e 4).trans c4, (e 5).trans c5, (e 6).trans c6⟩

/-- Of raw numbers, and words, a heap. -/
def hpL (l : Lay) (ws : List Nat) : Hp := ⟨l.base, l.cap, l.to, false, 0, smOf ws 0 l.low.toNat, smOf ws 1 l.high.toNat, smOf ws 2 l.old.toNat, smOf ws 3 l.far.toNat, smOf ws 4 3⟩
theorem hpL_lay (l : Lay) (ws : List Nat) (h : l.Ok) : (hpL l ws).lay = l := by
  obtain ⟨base, cap, tu, low, high, old, far⟩ := l
  unfold Lay.Ok at h
  simp only at h
  simp only [Hp.lay, hpL, smOf_len]
  congr 1 <;> omega
/-- A heap is handed back that reads so, in new memory. -/
def HvRet (h : Hp) (w : World) (en : Ending) (w' : World) : Prop := ∃ u : Hv, en = .returned (.agg u.cells) ∧ u.Is w' h ∧ Below w.heap.size w w'

set_option maxRecDepth 100000 in
set_option maxHeartbeats 4000000 in
theorem heap_any (b n0 n1 n2 n3 n4 n5 : Int) (A : Option Addr) (ws : List Nat) (cap : Nat) (w : World) (hb : 0 ≤ b ∧ b < 18446744073709551616) (g0 : -9223372036854775808 ≤ n0 ∧ n0 ≤ 9223372036854775807) (g1 : -9223372036854775808 ≤ n1 ∧ n1 ≤ 9223372036854775807) (g2 : -9223372036854775808 ≤ n2 ∧ n2 ≤ 9223372036854775807)
    (g3 : -9223372036854775808 ≤ n3 ∧ n3 ≤ 9223372036854775807) (g4 : -9223372036854775808 ≤ n4 ∧ n4 ≤ 9223372036854775807) (g5 : -9223372036854775808 ≤ n5 ∧ n5 ≤ 9223372036854775807)
    (hr : Rd w A (us ws)) (hc : ws.length ≤ 9223372036854775807) (hv : ∀ x ∈ ws, x < 18446744073709551616) :
    Calls Try.prog 35 #[.int .u64 b, .agg #[.int .i64 n0, .int .i64 n1, .int .i64 n2, .int .i64 n3, .int .i64 n4, .int .i64 n5], .slice A ws.length cap] w (HvRet (hpL (layOf b n0 n1 n2 n3 n4 n5) ws) w) := by
  have HLY := Lib.hid fun W => layout_any b n0 n1 n2 n3 n4 n5 W hb g0 g1 g2 g3 g4 g5
  have hok := layOf_ok b n0 n1 n2 n3 n4 n5
  obtain ⟨l, hl⟩ : ∃ l, l = layOf b n0 n1 n2 n3 n4 n5 := ⟨_, rfl⟩
  rw [← hl] at HLY hok ⊢
  clear hl hb g0 g1 g2 g3 g4 g5
  obtain ⟨hok, hcap⟩ := hok
  have HS := Lib.hid fun (from_ : Int) (n : Nat) (W : World) (a : Rd W A (us ws)) (b : 0 ≤ from_ ∧ from_ ≤ 10) (c : n ≤ 100) => some_any A ws cap from_ n W a hc hv b c
  have HRD := Lib.hid hr
  have kl : 0 ≤ l.low ∧ l.low ≤ 40 ∧ 0 ≤ l.high ∧ l.high ≤ 40 ∧ 0 ≤ l.old ∧ l.old ≤ 40 ∧ 0 ≤ l.far ∧ l.far ≤ 40 := by
    obtain ⟨_, _, _, _, _, a, b, c, d, e, f⟩ := hok
    omega
  obtain ⟨kl1, kl2, kl3, kl4, kl5, kl6, kl7, kl8⟩ := kl
  rw [hpL]
  have N1 := Lib.hid (show (l.low.toNat : Int) = l.low by omega)
  have N2 := Lib.hid (show (l.high.toNat : Int) = l.high by omega)
  have N3 := Lib.hid (show (l.old.toNat : Int) = l.old by omega)
  have N4 := Lib.hid (show (l.far.toNat : Int) = l.far by omega)
  have M1 : l.low.toNat ≤ 100 := by omega
  have M2 : l.high.toNat ≤ 100 := by omega
  have M3 : l.old.toNat ≤ 100 := by omega
  have M4 : l.far.toNat ≤ 100 := by omega
  clear hr hc hv hok hcap
  simp only [Lay.cells] at HLY
  go_enter Try.func35, Try.ntmps35
  go_wp2_with fail
  have hr0 : ((w.alloc (.cells #[.int .i64 n0, .int .i64 n1, .int .i64 n2, .int .i64 n3, .int .i64 n4, .int .i64 n5] 25)).alloc (.cells #[.int .u64 0, .int .i64 0, .int .i64 0, .bool false, .int .i64 0, .slice none 0 0, .slice none 0 0, .slice none 0 0, .slice none 0 0, .slice none 0 0] 50)).heap[w.heap.size + 1]? = some (.cells #[.int .u64 0, .int .i64 0, .int .i64 0, .bool false, .int .i64 0, .slice none 0 0, .slice none 0 0, .slice none 0 0, .slice none 0 0, .slice none 0 0] 50 (0, 0)) := by
    rw [show w.heap.size + 1 = (w.alloc (.cells #[.int .i64 n0, .int .i64 n1, .int .i64 n2, .int .i64 n3, .int .i64 n4, .int .i64 n5] 25)).heap.size by simp]
    exact heap_alloc_new _ _
  have hb0 : Below w.heap.size w ((w.alloc (.cells #[.int .i64 n0, .int .i64 n1, .int .i64 n2, .int .i64 n3, .int .i64 n4, .int .i64 n5] 25)).alloc (.cells #[.int .u64 0, .int .i64 0, .int .i64 0, .bool false, .int .i64 0, .slice none 0 0, .slice none 0 0, .slice none 0 0, .slice none 0 0, .slice none 0 0] 50)) := bl_alloc (bl_alloc (bl_refl w) _) _
  refine (HLY.out _).mono ?_
  intro e w1 hr
  obtain ⟨rfl, hb⟩ := hr.both
  have hr1 := blk_below (blk_below hr0 hb (lt_of_heap hr0)) (bl_alloc (bl_alloc (bl_refl w1) (.cells #[.int .u64 l.base, .int .i64 l.cap, .int .i64 l.to, .int .i64 l.low, .int .i64 l.high, .int .i64 l.old, .int .i64 l.far] 24)) (.cells #[.int .u64 l.base, .int .i64 l.cap, .int .i64 l.to, .bool false, .int .i64 0, .slice none 0 0, .slice none 0 0, .slice none 0 0, .slice none 0 0, .slice none 0 0] 50)) (by have := hb.size; simp at this; omega)
  have hb1 := bl_alloc (bl_alloc (bl_step hb0 hb) (.cells #[.int .u64 l.base, .int .i64 l.cap, .int .i64 l.to, .int .i64 l.low, .int .i64 l.high, .int .i64 l.old, .int .i64 l.far] 24)) (.cells #[.int .u64 l.base, .int .i64 l.cap, .int .i64 l.to, .bool false, .int .i64 0, .slice none 0 0, .slice none 0 0, .slice none 0 0, .slice none 0 0, .slice none 0 0] 50)
  have hk1 : ((w1.alloc (.cells #[.int .u64 l.base, .int .i64 l.cap, .int .i64 l.to, .int .i64 l.low, .int .i64 l.high, .int .i64 l.old, .int .i64 l.far] 24)).alloc (.cells #[.int .u64 l.base, .int .i64 l.cap, .int .i64 l.to, .bool false, .int .i64 0, .slice none 0 0, .slice none 0 0, .slice none 0 0, .slice none 0 0, .slice none 0 0] 50)).heap[w1.heap.size + 1]? = some (.cells #[.int .u64 l.base, .int .i64 l.cap, .int .i64 l.to, .bool false, .int .i64 0, .slice none 0 0, .slice none 0 0, .slice none 0 0, .slice none 0 0, .slice none 0 0] 50 (0, 0)) := by
    rw [show w1.heap.size + 1 = (w1.alloc (.cells #[.int .u64 l.base, .int .i64 l.cap, .int .i64 l.to, .int .i64 l.low, .int .i64 l.high, .int .i64 l.old, .int .i64 l.far] 24)).heap.size by simp]
    exact heap_alloc_new _ _
  have hl1 := (LayAt.lit w1 l 24).alloc (.cells #[.int .u64 l.base, .int .i64 l.cap, .int .i64 l.to, .bool false, .int .i64 0, .slice none 0 0, .slice none 0 0, .slice none 0 0, .slice none 0 0, .slice none 0 0] 50)
  simp only [Lay.cells] at hl1
  have hws : w.heap.size + 1 < w1.heap.size := by have := hb.size; simp at this; omega
  clear hr hb hr0 hb0 HLY
  go_wp2_with fail
  obtain ⟨X0, hX0⟩ : ∃ W, W = (w1.alloc (.cells #[.int .u64 l.base, .int .i64 l.cap, .int .i64 l.to, .int .i64 l.low, .int .i64 l.high, .int .i64 l.old, .int .i64 l.far] 24)).alloc (.cells #[.int .u64 l.base, .int .i64 l.cap, .int .i64 l.to, .bool false, .int .i64 0, .slice none 0 0, .slice none 0 0, .slice none 0 0, .slice none 0 0, .slice none 0 0] 50) := ⟨_, rfl⟩
  rw [← hX0] at hr1 hb1 hk1 hl1 ⊢
  clear hX0
  obtain ⟨gl, hgl⟩ : ∃ g, g = w1.heap.size := ⟨_, rfl⟩
  rw [← hgl] at hk1 hl1 hws ⊢
  obtain ⟨gk, hgk⟩ : ∃ g, g = gl + 1 := ⟨_, rfl⟩
  rw [← hgk] at hk1 ⊢
  obtain ⟨gr, hgr⟩ : ∃ g, g = w.heap.size + 1 := ⟨_, rfl⟩
  rw [← hgr] at hr1 hws ⊢
  have nrk : gr ≠ gk := by omega
  have nlk : gl ≠ gk := by omega
  have nkr : gk ≠ gr := by omega
  have nwk : w.heap.size ≤ gk := by omega
  have nwr : w.heap.size ≤ gr := by omega
  have zk : gk < X0.heap.size := lt_of_heap hk1
  have zr : gr < X0.heap.size := lt_of_heap hr1
  have hk0 := hk1
  have hr0 := hr1
  have hb0 := hb1
  have hl0 := hl1
  have hG0 : X0.heap.size ≤ X0.heap.size := Nat.le_refl _
  clear hgl hgk hgr hk1 hr1 hb1 hl1 w1
  have hcall := HS.out (0) l.low.toNat X0 (HRD.out.below hb0) (by omega) M1
  rw [N1.out] at hcall
  refine hcall.mono ?_
  intro e w1 hr
  obtain ⟨s1, rfl, hs1, hb⟩ := hr
  have hk1 := blk_below hk0 hb (lt_of_heap hk0)
  have hr1 := blk_below hr0 hb (lt_of_heap hr0)
  have hl1 := hl0.below hb
  have hb1 := bl_step hb0 hb
  have hG1 : X0.heap.size ≤ w1.heap.size := by have := hb.size; omega
  have hZ1 : X0.heap.size ≤ w1.heap.size := hb.size
  have d5 : w1.cell? ⟨gk, 5, none⟩ = some (.slice none 0 0) := blk_cell hk1 5
  have e5 : w1.frozen? ⟨gk, 5, none⟩ = false := blk_frozen hk1 5
  have hl1 := LayAt.set hl1 (p := ⟨gk, 5, none⟩) nlk (.slice s1.a s1.n s1.c)
  obtain ⟨y0, y1, y2, y3, y4, y5, y6⟩ := id (hl0.below hb)
  clear hb hcall
  simp only [Sl.v]
  go_wp2_with fail
  clear y0 y1 y2 y3 y4 y5 y6
  have hr1 := blk_far (g := gk) (i := 5) (u := .slice s1.a s1.n s1.c) hr1 nrk
  have hk1 := blk_set hk1 5 (.slice s1.a s1.n s1.c)
  have hb1 := hb1.setCell (p := ⟨gk, 5, none⟩) nwk (.slice s1.a s1.n s1.c)
  have hs1 := hs1.set (g := gk) (i := 5) (u := .slice s1.a s1.n s1.c) (by omega)
  simp only [List.setIfInBounds_toArray, List.set_cons_zero, List.set_cons_succ] at hk1
  have hS1 : (w1.setCell ⟨gk, 5, none⟩ (.slice s1.a s1.n s1.c)).heap.size = w1.heap.size := by simp [World.setCell]
  obtain ⟨X1, hX⟩ : ∃ X, X = w1.setCell ⟨gk, 5, none⟩ (.slice s1.a s1.n s1.c) := ⟨_, rfl⟩
  rw [← hX] at hl1 hr1 hk1 hb1 hS1 hs1 ⊢
  have hSa1 : X1.heap.size ≤ w1.heap.size := by omega
  have hSb1 : w1.heap.size ≤ X1.heap.size := by omega
  clear hX d5 e5 hS1
  have hcall := HS.out (1) l.high.toNat X1 (HRD.out.below hb1) (by omega) M2
  rw [N2.out] at hcall
  refine hcall.mono ?_
  intro e w2 hr
  obtain ⟨s2, rfl, hs2, hb⟩ := hr
  have hk2 := blk_below hk1 hb (lt_of_heap hk1)
  have hr2 := blk_below hr1 hb (lt_of_heap hr1)
  have hl2 := hl1.below hb
  have hb2 := bl_step hb1 hb
  have hG2 : X0.heap.size ≤ w2.heap.size := by have := hb.size; omega
  have hZ2 : X1.heap.size ≤ w2.heap.size := hb.size
  have hs1 := hs1.belowB hb (by omega)
  have d6 : w2.cell? ⟨gk, 6, none⟩ = some (.slice none 0 0) := blk_cell hk2 6
  have e6 : w2.frozen? ⟨gk, 6, none⟩ = false := blk_frozen hk2 6
  have hl2 := LayAt.set hl2 (p := ⟨gk, 6, none⟩) nlk (.slice s2.a s2.n s2.c)
  obtain ⟨y0, y1, y2, y3, y4, y5, y6⟩ := id (hl1.below hb)
  clear hb hcall
  simp only [Sl.v]
  go_wp2_with fail
  clear y0 y1 y2 y3 y4 y5 y6
  have hr2 := blk_far (g := gk) (i := 6) (u := .slice s2.a s2.n s2.c) hr2 nrk
  have hk2 := blk_set hk2 6 (.slice s2.a s2.n s2.c)
  have hb2 := hb2.setCell (p := ⟨gk, 6, none⟩) nwk (.slice s2.a s2.n s2.c)
  have hs1 := hs1.set (g := gk) (i := 6) (u := .slice s2.a s2.n s2.c) (by omega)
  have hs2 := hs2.set (g := gk) (i := 6) (u := .slice s2.a s2.n s2.c) (by omega)
  simp only [List.setIfInBounds_toArray, List.set_cons_zero, List.set_cons_succ] at hk2
  have hS2 : (w2.setCell ⟨gk, 6, none⟩ (.slice s2.a s2.n s2.c)).heap.size = w2.heap.size := by simp [World.setCell]
  obtain ⟨X2, hX⟩ : ∃ X, X = w2.setCell ⟨gk, 6, none⟩ (.slice s2.a s2.n s2.c) := ⟨_, rfl⟩
  rw [← hX] at hl2 hr2 hk2 hb2 hS2 hs1 hs2 ⊢
  have hSa2 : X2.heap.size ≤ w2.heap.size := by omega
  have hSb2 : w2.heap.size ≤ X2.heap.size := by omega
  clear hX d6 e6 hS2
  have hcall := HS.out (2) l.old.toNat X2 (HRD.out.below hb2) (by omega) M3
  rw [N3.out] at hcall
  refine hcall.mono ?_
  intro e w3 hr
  obtain ⟨s3, rfl, hs3, hb⟩ := hr
  have hk3 := blk_below hk2 hb (lt_of_heap hk2)
  have hr3 := blk_below hr2 hb (lt_of_heap hr2)
  have hl3 := hl2.below hb
  have hb3 := bl_step hb2 hb
  have hG3 : X0.heap.size ≤ w3.heap.size := by have := hb.size; omega
  have hZ3 : X2.heap.size ≤ w3.heap.size := hb.size
  have hs1 := hs1.belowB hb (by omega)
  have hs2 := hs2.belowB hb (by omega)
  have d7 : w3.cell? ⟨gk, 7, none⟩ = some (.slice none 0 0) := blk_cell hk3 7
  have e7 : w3.frozen? ⟨gk, 7, none⟩ = false := blk_frozen hk3 7
  have hl3 := LayAt.set hl3 (p := ⟨gk, 7, none⟩) nlk (.slice s3.a s3.n s3.c)
  obtain ⟨y0, y1, y2, y3, y4, y5, y6⟩ := id (hl2.below hb)
  clear hb hcall
  simp only [Sl.v]
  go_wp2_with fail
  clear y0 y1 y2 y3 y4 y5 y6
  have hr3 := blk_far (g := gk) (i := 7) (u := .slice s3.a s3.n s3.c) hr3 nrk
  have hk3 := blk_set hk3 7 (.slice s3.a s3.n s3.c)
  have hb3 := hb3.setCell (p := ⟨gk, 7, none⟩) nwk (.slice s3.a s3.n s3.c)
  have hs1 := hs1.set (g := gk) (i := 7) (u := .slice s3.a s3.n s3.c) (by omega)
  have hs2 := hs2.set (g := gk) (i := 7) (u := .slice s3.a s3.n s3.c) (by omega)
  have hs3 := hs3.set (g := gk) (i := 7) (u := .slice s3.a s3.n s3.c) (by omega)
  simp only [List.setIfInBounds_toArray, List.set_cons_zero, List.set_cons_succ] at hk3
  have hS3 : (w3.setCell ⟨gk, 7, none⟩ (.slice s3.a s3.n s3.c)).heap.size = w3.heap.size := by simp [World.setCell]
  obtain ⟨X3, hX⟩ : ∃ X, X = w3.setCell ⟨gk, 7, none⟩ (.slice s3.a s3.n s3.c) := ⟨_, rfl⟩
  rw [← hX] at hl3 hr3 hk3 hb3 hS3 hs1 hs2 hs3 ⊢
  have hSa3 : X3.heap.size ≤ w3.heap.size := by omega
  have hSb3 : w3.heap.size ≤ X3.heap.size := by omega
  clear hX d7 e7 hS3
  have hcall := HS.out (3) l.far.toNat X3 (HRD.out.below hb3) (by omega) M4
  rw [N4.out] at hcall
  refine hcall.mono ?_
  intro e w4 hr
  obtain ⟨s4, rfl, hs4, hb⟩ := hr
  have hk4 := blk_below hk3 hb (lt_of_heap hk3)
  have hr4 := blk_below hr3 hb (lt_of_heap hr3)
  have hl4 := hl3.below hb
  have hb4 := bl_step hb3 hb
  have hG4 : X0.heap.size ≤ w4.heap.size := by have := hb.size; omega
  have hZ4 : X3.heap.size ≤ w4.heap.size := hb.size
  have hs1 := hs1.belowB hb (by omega)
  have hs2 := hs2.belowB hb (by omega)
  have hs3 := hs3.belowB hb (by omega)
  have d8 : w4.cell? ⟨gk, 8, none⟩ = some (.slice none 0 0) := blk_cell hk4 8
  have e8 : w4.frozen? ⟨gk, 8, none⟩ = false := blk_frozen hk4 8
  have hl4 := LayAt.set hl4 (p := ⟨gk, 8, none⟩) nlk (.slice s4.a s4.n s4.c)
  obtain ⟨y0, y1, y2, y3, y4, y5, y6⟩ := id (hl3.below hb)
  clear hb hcall
  simp only [Sl.v]
  go_wp2_with fail
  clear y0 y1 y2 y3 y4 y5 y6
  have hr4 := blk_far (g := gk) (i := 8) (u := .slice s4.a s4.n s4.c) hr4 nrk
  have hk4 := blk_set hk4 8 (.slice s4.a s4.n s4.c)
  have hb4 := hb4.setCell (p := ⟨gk, 8, none⟩) nwk (.slice s4.a s4.n s4.c)
  have hs1 := hs1.set (g := gk) (i := 8) (u := .slice s4.a s4.n s4.c) (by omega)
  have hs2 := hs2.set (g := gk) (i := 8) (u := .slice s4.a s4.n s4.c) (by omega)
  have hs3 := hs3.set (g := gk) (i := 8) (u := .slice s4.a s4.n s4.c) (by omega)
  have hs4 := hs4.set (g := gk) (i := 8) (u := .slice s4.a s4.n s4.c) (by omega)
  simp only [List.setIfInBounds_toArray, List.set_cons_zero, List.set_cons_succ] at hk4
  have hS4 : (w4.setCell ⟨gk, 8, none⟩ (.slice s4.a s4.n s4.c)).heap.size = w4.heap.size := by simp [World.setCell]
  obtain ⟨X4, hX⟩ : ∃ X, X = w4.setCell ⟨gk, 8, none⟩ (.slice s4.a s4.n s4.c) := ⟨_, rfl⟩
  rw [← hX] at hl4 hr4 hk4 hb4 hS4 hs1 hs2 hs3 hs4 ⊢
  have hSa4 : X4.heap.size ≤ w4.heap.size := by omega
  have hSb4 : w4.heap.size ≤ X4.heap.size := by omega
  clear hX d8 e8 hS4
  have hcall := HS.out 4 3 X4 (HRD.out.below hb4) (by omega) (by omega)
  rw [show ((3 : Nat) : Int) = 3 from rfl] at hcall
  refine hcall.mono ?_
  intro e w5 hr
  obtain ⟨s5, rfl, hs5, hb⟩ := hr
  have hk5 := blk_below hk4 hb (lt_of_heap hk4)
  have hr5 := blk_below hr4 hb (lt_of_heap hr4)
  have hl5 := hl4.below hb
  have hb5 := bl_step hb4 hb
  have hG5 : X0.heap.size ≤ w5.heap.size := by have := hb.size; omega
  have hZ5 : X4.heap.size ≤ w5.heap.size := hb.size
  have hs1 := hs1.belowB hb (by omega)
  have hs2 := hs2.belowB hb (by omega)
  have hs3 := hs3.belowB hb (by omega)
  have hs4 := hs4.belowB hb (by omega)
  have d0 : w5.cell? ⟨gk, 0, none⟩ = some (.int .u64 l.base) := blk_cell hk5 0
  have r0 : w5.cell? ⟨gr, 0, none⟩ = some (.int .u64 0) := blk_cell hr5 0
  have d1 : w5.cell? ⟨gk, 1, none⟩ = some (.int .i64 l.cap) := blk_cell hk5 1
  have r1 : w5.cell? ⟨gr, 1, none⟩ = some (.int .i64 0) := blk_cell hr5 1
  have d2 : w5.cell? ⟨gk, 2, none⟩ = some (.int .i64 l.to) := blk_cell hk5 2
  have r2 : w5.cell? ⟨gr, 2, none⟩ = some (.int .i64 0) := blk_cell hr5 2
  have d3 : w5.cell? ⟨gk, 3, none⟩ = some (.bool false) := blk_cell hk5 3
  have r3 : w5.cell? ⟨gr, 3, none⟩ = some (.bool false) := blk_cell hr5 3
  have d4 : w5.cell? ⟨gk, 4, none⟩ = some (.int .i64 0) := blk_cell hk5 4
  have r4 : w5.cell? ⟨gr, 4, none⟩ = some (.int .i64 0) := blk_cell hr5 4
  have d5 : w5.cell? ⟨gk, 5, none⟩ = some (.slice s1.a s1.n s1.c) := blk_cell hk5 5
  have r5 : w5.cell? ⟨gr, 5, none⟩ = some (.slice none 0 0) := blk_cell hr5 5
  have d6 : w5.cell? ⟨gk, 6, none⟩ = some (.slice s2.a s2.n s2.c) := blk_cell hk5 6
  have r6 : w5.cell? ⟨gr, 6, none⟩ = some (.slice none 0 0) := blk_cell hr5 6
  have d7 : w5.cell? ⟨gk, 7, none⟩ = some (.slice s3.a s3.n s3.c) := blk_cell hk5 7
  have r7 : w5.cell? ⟨gr, 7, none⟩ = some (.slice none 0 0) := blk_cell hr5 7
  have d8 : w5.cell? ⟨gk, 8, none⟩ = some (.slice s4.a s4.n s4.c) := blk_cell hk5 8
  have r8 : w5.cell? ⟨gr, 8, none⟩ = some (.slice none 0 0) := blk_cell hr5 8
  have d9 : w5.cell? ⟨gk, 9, none⟩ = some (.slice none 0 0) := blk_cell hk5 9
  have r9 : w5.cell? ⟨gr, 9, none⟩ = some (.slice none 0 0) := blk_cell hr5 9
  have fg := fun i => blk_frozen hk5 i
  have fr := fun i => blk_frozen hr5 i
  clear hb hcall hk5 hr5
  simp only [Sl.v]
  go_wp2
  refine bodyPost_ret (v := .agg #[.int .u64 l.base, .int .i64 l.cap, .int .i64 l.to, .bool false, .int .i64 0, .slice s1.a s1.n s1.c, .slice s2.a s2.n s2.c, .slice s3.a s3.n s3.c, .slice s4.a s4.n s4.c, .slice s5.a s5.n s5.c]) (by simp [results, Try.results35, go_sem, nrk, nkr, r0, r1, r2, r3, r4, r5, r6, r7, r8, r9, d0, d1, d2, d3, d4, d5, d6, d7, d8, d9]) rfl ?_
  refine ⟨⟨l.base, l.cap, l.to, false, 0, s1, s2, s3, s4, s5⟩, rfl, ⟨⟨rfl, rfl, rfl, rfl, rfl⟩, ?_, ?_, ?_, ?_, ?_⟩, ?_⟩
  · suffices hh : Fresh _ X0.heap.size w1.heap.size s1 (smOf ws 0 l.low.toNat) from hh.1
    repeat (with_reducible refine Fresh.set ?_ (by omega))
    exact hs1
  · suffices hh : Fresh _ X1.heap.size w2.heap.size s2 (smOf ws 1 l.high.toNat) from hh.1
    repeat (with_reducible refine Fresh.set ?_ (by omega))
    exact hs2
  · suffices hh : Fresh _ X2.heap.size w3.heap.size s3 (smOf ws 2 l.old.toNat) from hh.1
    repeat (with_reducible refine Fresh.set ?_ (by omega))
    exact hs3
  · suffices hh : Fresh _ X3.heap.size w4.heap.size s4 (smOf ws 3 l.far.toNat) from hh.1
    repeat (with_reducible refine Fresh.set ?_ (by omega))
    exact hs4
  · suffices hh : Fresh _ X4.heap.size w5.heap.size s5 (smOf ws 4 3) from hh.1
    repeat (with_reducible refine Fresh.set ?_ (by omega))
    exact hs5
  · repeat (with_reducible refine Below.setCell ?_ (by first | exact nwr | exact nwk) _)
    exact hb5
end Go.Proofs.Ytappejihclmjmaa
