/-
  The laws' own helper for layer 10: awake. No condition.
-/
import Derived.Test.YtappejihclmjmaaHJ
import Derived.Deep.RegionHeld3
import Derived.Deep.RegionWith
import Derived.Deep.DrawnRows
namespace Go.Proofs.Ytappejihclmjmaa
open Go.RowKit
attribute [local go_sem ↓] Go.wp_at_zero Go.wp_at_succ

def hw1 : Hp := ⟨10, 5, 1, false, 0, [9, 8], [], [], [], []⟩
def hw2 : Hp := ⟨3, 4, 0, false, 0, [], [], [], [], [0, 0]⟩
theorem same1 (u : Hv) (g : Nat) (W : World) (a : u.Is W hw1) (b : TwoAt W g (.int .u64 9) (.int .u64 8)) : Calls Try.prog 32 #[.agg #[.int .u64 u.base, .int .i64 u.cap, .int .i64 u.tu, .bool u.cyc, .int .i64 u.scan, .slice u.low.a u.low.n u.low.c, .slice u.high.a u.high.n u.high.c, .slice u.old.a u.old.n u.old.c, .slice u.far.a u.far.n u.far.c, .slice u.roots.a u.roots.n u.roots.c], .agg #[.int .u64 10, .int .i64 5, .int .i64 1, .bool false, .int .i64 0, .slice (some ⟨g, 0, none⟩) 2 2, .slice none 0 0, .slice none 0 0, .slice none 0 0, .slice none 0 0]] W (RetB (.bool true) W) :=
  same_any u ⟨10, 5, 1, false, 0, ⟨some ⟨g, 0, none⟩, 2, 2⟩, .nil, .nil, .nil, .nil⟩ hw1 W a ⟨⟨rfl, rfl, rfl, rfl, rfl⟩, two_is W g 9 8 b, nil_is _, nil_is _, nil_is _, nil_is _⟩
theorem same2 (u : Hv) (g : Nat) (W : World) (a : u.Is W hw2) (b : TwoAt W g (.int .u64 0) (.int .u64 0)) : Calls Try.prog 32 #[.agg #[.int .u64 u.base, .int .i64 u.cap, .int .i64 u.tu, .bool u.cyc, .int .i64 u.scan, .slice u.low.a u.low.n u.low.c, .slice u.high.a u.high.n u.high.c, .slice u.old.a u.old.n u.old.c, .slice u.far.a u.far.n u.far.c, .slice u.roots.a u.roots.n u.roots.c], .agg #[.int .u64 3, .int .i64 4, .int .i64 0, .bool false, .int .i64 0, .slice none 0 0, .slice none 0 0, .slice none 0 0, .slice none 0 0, .slice (some ⟨g, 0, none⟩) 2 2]] W (RetB (.bool true) W) :=
  same_any u ⟨3, 4, 0, false, 0, .nil, .nil, .nil, .nil, ⟨some ⟨g, 0, none⟩, 2, 2⟩⟩ hw2 W a ⟨⟨rfl, rfl, rfl, rfl, rfl⟩, nil_is _, nil_is _, nil_is _, nil_is _, two_is W g 0 0 b⟩
def hvA (g : Nat) : Hv := ⟨10, 5, 1, false, 0, ⟨some ⟨g, 0, none⟩, 2, 2⟩, .nil, .nil, .nil, .nil⟩
theorem lay3 (g : Nat) (W : World) : Calls Try.prog 36 #[.agg #[.int .u64 10, .int .i64 5, .int .i64 1, .bool false, .int .i64 0, .slice (some ⟨g, 0, none⟩) 2 2, .slice none 0 0, .slice none 0 0, .slice none 0 0, .slice none 0 0]] W (RetB (.agg #[.int .u64 10, .int .i64 5, .int .i64 1, .int .i64 2, .int .i64 0, .int .i64 0, .int .i64 0]) W) := hlayout_any (hvA g) W
def Own3 (g : Nat) (W : World) (en : Ending) (w' : World) : Prop := ∃ o : Hv, en = .returned (.agg #[.int .u64 o.base, .int .i64 o.cap, .int .i64 o.tu, .bool o.cyc, .int .i64 o.scan, .slice o.low.a o.low.n o.low.c, .slice o.high.a o.high.n o.high.c, .slice o.old.a o.old.n o.old.c, .slice o.far.a o.far.n o.far.c, .slice o.roots.a o.roots.n o.roots.c]) ∧ o.Is w' ha0 ∧ Below W.heap.size W w'
theorem own3 (g : Nat) (W : World) (a : (hvA g).Is W ha0) : Calls Try.prog 38 #[.agg #[.int .u64 10, .int .i64 5, .int .i64 1, .bool false, .int .i64 0, .slice (some ⟨g, 0, none⟩) 2 2, .slice none 0 0, .slice none 0 0, .slice none 0 0, .slice none 0 0]] W (Own3 g W) := by
  refine (own_any (hvA g) ha0 W a (by decide) (by decide) (by decide) (by decide) (by decide)).mono ?_
  intro e w' hr
  obtain ⟨s1, s2, s3, s4, s5, B1, B2, B3, B4, B5, rfl, _, _, _, _, _, _, f1, f2, f3, f4, f5, hb⟩ := hr
  exact ⟨⟨10, 5, 1, false, 0, s1, s2, s3, s4, s5⟩, rfl, ⟨⟨rfl, rfl, rfl, rfl, rfl⟩, f1.1, f2.1, f3.1, f4.1, f5.1⟩, hb⟩
theorem same3 (o : Hv) (g : Nat) (W : World) (a : o.Is W ha0) (b : (hvA g).Is W ha0) : Calls Try.prog 32 #[.agg #[.int .u64 o.base, .int .i64 o.cap, .int .i64 o.tu, .bool o.cyc, .int .i64 o.scan, .slice o.low.a o.low.n o.low.c, .slice o.high.a o.high.n o.high.c, .slice o.old.a o.old.n o.old.c, .slice o.far.a o.far.n o.far.c, .slice o.roots.a o.roots.n o.roots.c], .agg #[.int .u64 10, .int .i64 5, .int .i64 1, .bool false, .int .i64 0, .slice (some ⟨g, 0, none⟩) 2 2, .slice none 0 0, .slice none 0 0, .slice none 0 0, .slice none 0 0]] W (RetB (.bool true) W) := same_any o (hvA g) ha0 W a b

set_option maxRecDepth 100000 in
set_option maxHeartbeats 4000000 in
theorem awake10_any (w : World) : Calls Try.prog 28 #[] w (RetTrue w) := by
  have R1 := Lib.hid fun (v : Hv) (W : World) (a : v.Is W ha0) => read_any v ha0 16 W a ha0_wf (by omega) (by omega)
  have R2 := Lib.hid fun (v : Hv) (W : World) (a : v.Is W ha0) => read_any v ha0 17 W a ha0_wf (by omega) (by omega)
  rw [aw10_1.1, aw10_1.2] at R1
  rw [show rdW ha0 17 = 0 from rd_none _ _ (by rw [ha0_17]; simp), aw10_3] at R2
  have W1 := Lib.hid fun (v : Hv) (W : World) (a : v.Is W ha0) => write_any v ha0 15 9 W a ha0_wf (by omega) (by omega) (by decide) (by decide) (by decide) (by decide) (by decide)
  rw [aw10_2.1, aw10_2.2] at W1
  have W2 := Lib.hid fun (W : World) => write_any hvz hpz 1 1 W (hvz_is W) hpz_lay_wf (by omega) (by omega) (by decide) (by decide) (by decide) (by decide) (by decide)
  rw [aw10_4.1, aw10_4.2] at W2
  have N1 := Lib.hid fun (W : World) => new_any 3 4 2 W (by omega) (by omega) (by omega)
  rw [aw10_5.1, aw10_5.2] at N1
  have N2 := Lib.hid fun (W : World) => new_any 0 4 2 W (by omega) (by omega) (by omega)
  rw [aw10_6] at N2
  have N3 := Lib.hid fun (W : World) => new_any 9223372036854775808 4 2 W (by omega) (by omega) (by omega)
  rw [aw10_7] at N3
  simp only [Hv.cells, Sl.v, hvz, Sl.nil] at R1 R2 W1 W2
  go_enter Try.func28, Try.ntmps28
  go_wp2_with fail
  obtain ⟨v0, hv0⟩ : ∃ v : Hv, v = ⟨10, 5, 1, false, 0, ⟨some ⟨w.heap.size, 0, none⟩, 2, 2⟩, .nil, .nil, .nil, .nil⟩ := ⟨_, rfl⟩
  have hi0 : v0.Is ((w.alloc (.cells #[.int .u64 7, .int .u64 8] 22)).alloc (.cells #[.int .u64 10, .int .i64 5, .int .i64 1, .bool false, .int .i64 0, .slice (some ⟨w.heap.size, 0, none⟩) 2 2, .slice none 0 0, .slice none 0 0, .slice none 0 0, .slice none 0 0] 50)) ha0 := by
    rw [hv0]
    exact ⟨⟨rfl, rfl, rfl, rfl, rfl⟩, two_is _ _ 7 8 ((TwoAt.lit w _ _ _).alloc _), nil_is _, nil_is _, nil_is _, nil_is _⟩
  have hh0 : HeapAt ((w.alloc (.cells #[.int .u64 7, .int .u64 8] 22)).alloc (.cells #[.int .u64 10, .int .i64 5, .int .i64 1, .bool false, .int .i64 0, .slice (some ⟨w.heap.size, 0, none⟩) 2 2, .slice none 0 0, .slice none 0 0, .slice none 0 0, .slice none 0 0] 50)) (w.heap.size + 1) v0 := by
    have := HeapAt.lit (w.alloc (.cells #[.int .u64 7, .int .u64 8] 22)) v0 50
    rw [hv0] at this ⊢
    rw [show (w.alloc (.cells #[.int .u64 7, .int .u64 8] 22)).heap.size = w.heap.size + 1 by simp] at this
    exact this
  have hb0 : Below w.heap.size w ((w.alloc (.cells #[.int .u64 7, .int .u64 8] 22)).alloc (.cells #[.int .u64 10, .int .i64 5, .int .i64 1, .bool false, .int .i64 0, .slice (some ⟨w.heap.size, 0, none⟩) 2 2, .slice none 0 0, .slice none 0 0, .slice none 0 0, .slice none 0 0] 50)) := bl_alloc (bl_alloc (bl_refl w) _) _
  have hr1 := R1.out v0 _ hi0
  have hcv : v0.base = 10 ∧ v0.cap = 5 ∧ v0.tu = 1 ∧ v0.cyc = false ∧ v0.scan = 0 ∧ v0.low = ⟨some ⟨w.heap.size, 0, none⟩, 2, 2⟩ ∧ v0.high = .nil ∧ v0.old = .nil ∧ v0.far = .nil ∧ v0.roots = .nil := by rw [hv0]; exact ⟨rfl, rfl, rfl, rfl, rfl, rfl, rfl, rfl, rfl, rfl⟩
  obtain ⟨z1, z2, z3, z4, z5, z6, z7, z8, z9, z10⟩ := hcv
  simp only [z1, z2, z3, z4, z5, z6, z7, z8, z9, z10, Sl.nil] at hr1
  refine hr1.mono ?_
  intro e w1 hr
  obtain ⟨rfl, hb⟩ := hr.both
  have hi1 := hi0.below hb
  have hh1 := hh0.below hb
  have hb1 := bl_step hb0 hb
  have HV0 := Lib.hid (show v0 = hvA w.heap.size from hv0)
  have HC := Lib.hid (And.intro z1 (And.intro z2 (And.intro z3 (And.intro z4 (And.intro z5 (And.intro z6 (And.intro z7 (And.intro z8 (And.intro z9 z10)))))))))
  clear hr hb hr1 hi0 hh0 hb0 hv0 z1 z2 z3 z4 z5 z6 z7 z8 z9 z10
  obtain ⟨c0, c1, c2, c3, c4, c5, c6, c7, c8, c9⟩ := id hh1
  go_wp2_with fail
  clear c0 c1 c2 c3 c4 c5 c6 c7 c8 c9
  refine (W1.out v0 _ hi1).mono ?_
  intro e w2 hr
  obtain ⟨u, rfl, hu2, hb⟩ := hr
  have hi2 := hi1.below hb
  have hh2 := hh1.below hb
  have hb2 := bl_step hb1 hb
  have hg2 := HeapAt.lit w2 u 50
  simp only [Hv.cells, Sl.v] at hg2 ⊢
  clear hb hi1 hh1 hb1 
  obtain ⟨c0, c1, c2, c3, c4, c5, c6, c7, c8, c9⟩ := id hh2
  have hz : w.heap.size + 1 < w2.heap.size := World.block_lt_of_cell? _ _ c0
  go_wp2_with fail
  clear c0 c1 c2 c3 c4 c5 c6 c7 c8 c9 hz
  refine (R2.out v0 _ (hi2.below (bl_alloc (bl_refl _) _))).mono ?_
  intro e w3 hr
  obtain ⟨rfl, hb⟩ := hr.both
  have hi3 := (hi2.below (bl_alloc (bl_refl _) _)).below hb
  have hu3 := (hu2.below (bl_alloc (bl_refl _) _)).below hb
  have hh3 := (hh2.alloc _).below hb
  have hg3 := hg2.below hb
  have hb3 := bl_step (bl_alloc hb2 _) hb
  clear hr hb hi2 hu2 hh2 hg2 hb2
  go_wp2_with fail
  refine (W2.out _).mono ?_
  intro e w4 hr
  obtain ⟨u4, rfl, _, hb⟩ := hr
  have hi4 := (hi3.below hb).below (bl_alloc (bl_refl _) (.cells u4.cells 50))
  have hu4 := (hu3.below hb).below (bl_alloc (bl_refl _) (.cells u4.cells 50))
  have hh4 := (hh3.below hb).alloc (.cells u4.cells 50)
  have hg4 := (hg3.below hb).alloc (.cells u4.cells 50)
  have hb4 := bl_alloc (bl_step hb3 hb) (.cells u4.cells 50)
  simp only [Hv.cells, Sl.v] at hi4 hu4 hh4 hg4 hb4 ⊢
  clear hb hi3 hu3 hh3 hg3 hb3
  go_wp2_with fail
  refine (N1.out _).mono ?_
  intro e w5 hr
  obtain ⟨u5, rfl, hn5, hb⟩ := hr
  have hi5 := (hi4.below hb).below (bl_alloc (bl_refl _) (.cells u5.cells 50))
  have hu5 := (hu4.below hb).below (bl_alloc (bl_refl _) (.cells u5.cells 50))
  have hnn5 := hn5.below (bl_alloc (bl_refl _) (.cells u5.cells 50))
  have hh5 := (hh4.below hb).alloc (.cells u5.cells 50)
  have hg5 := (hg4.below hb).alloc (.cells u5.cells 50)
  have hk5 := HeapAt.lit w5 u5 50
  have hb5 := bl_alloc (bl_step hb4 hb) (.cells u5.cells 50)
  simp only [Hv.cells, Sl.v] at hi5 hu5 hnn5 hh5 hg5 hk5 hb5 ⊢
  clear hb hi4 hu4 hh4 hg4 hb4 hn5
  go_wp2_with fail
  refine (N2.out _).mono ?_
  intro e w6 hr
  obtain ⟨u6, rfl, _, hb⟩ := hr
  have hi6 := (hi5.below hb).below (bl_alloc (bl_refl _) (.cells u6.cells 50))
  have hu6 := (hu5.below hb).below (bl_alloc (bl_refl _) (.cells u6.cells 50))
  have hn6 := (hnn5.below hb).below (bl_alloc (bl_refl _) (.cells u6.cells 50))
  have hh6 := (hh5.below hb).alloc (.cells u6.cells 50)
  have hg6 := (hg5.below hb).alloc (.cells u6.cells 50)
  have hk6 := (hk5.below hb).alloc (.cells u6.cells 50)
  have hb6 := bl_alloc (bl_step hb5 hb) (.cells u6.cells 50)
  simp only [Hv.cells, Sl.v] at hi6 hu6 hn6 hh6 hg6 hk6 hb6 ⊢
  clear hb hi5 hu5 hh5 hg5 hb5 hnn5 hk5
  go_wp2_with fail
  refine (N3.out _).mono ?_
  intro e w7 hr
  obtain ⟨u7, rfl, _, hb⟩ := hr
  have hi7 := (hi6.below hb).below (bl_alloc (bl_refl _) (.cells u7.cells 50))
  have hu7 := (hu6.below hb).below (bl_alloc (bl_refl _) (.cells u7.cells 50))
  have hn7 := (hn6.below hb).below (bl_alloc (bl_refl _) (.cells u7.cells 50))
  have hh7 := (hh6.below hb).alloc (.cells u7.cells 50)
  have hg7 := (hg6.below hb).alloc (.cells u7.cells 50)
  have hk7 := (hk6.below hb).alloc (.cells u7.cells 50)
  have hb7 := bl_alloc (bl_step hb6 hb) (.cells u7.cells 50)
  simp only [Hv.cells, Sl.v] at hi7 hu7 hn7 hh7 hg7 hk7 hb7 ⊢
  clear hb hi6 hu6 hh6 hg6 hb6 hn6 hk6
  go_wp2_with fail
  obtain ⟨W8, hW8⟩ : ∃ W, W = w7.alloc (.cells #[.int .u64 u7.base, .int .i64 u7.cap, .int .i64 u7.tu, .bool u7.cyc, .int .i64 u7.scan, .slice u7.low.a u7.low.n u7.low.c, .slice u7.high.a u7.high.n u7.high.c, .slice u7.old.a u7.old.n u7.old.c, .slice u7.far.a u7.far.n u7.far.c, .slice u7.roots.a u7.roots.n u7.roots.c] 50) := ⟨_, rfl⟩
  rw [← hW8] at hi7 hu7 hn7 hh7 hg7 hk7 hb7 ⊢
  clear hW8
  obtain ⟨gh, hgh⟩ : ∃ g, g = w.heap.size + 1 := ⟨_, rfl⟩
  rw [← hgh] at hh7 ⊢
  obtain ⟨gu, hgu⟩ : ∃ g, g = w2.heap.size := ⟨_, rfl⟩
  rw [← hgu] at hg7 ⊢
  obtain ⟨gn, hgn⟩ : ∃ g, g = w5.heap.size := ⟨_, rfl⟩
  rw [← hgn] at hk7 ⊢
  clear hgh hgu hgn
  obtain ⟨z1, z2, z3, z4, z5, z6, z7, z8, z9, z10⟩ := HC.out
  have hh8 := hh7
  unfold HeapAt at hh8
  simp only [z1, z2, z3, z4, z5, z6, z7, z8, z9, z10, Sl.nil] at hh8
  clear z1 z2 z3 z4 z5 z6 z7 z8 z9 z10 R1 R2 W1 W2 N1 N2 N3
  obtain ⟨c0, c1, c2, c3, c4, c5, c6, c7, c8, c9⟩ := hh8
  obtain ⟨d0, d1, d2, d3, d4, d5, d6, d7, d8, d9⟩ := id hg7
  obtain ⟨k0, k1, k2, k3, k4, k5, k6, k7, k8, k9⟩ := id hk7
  have hv0e := HV0.out
  rw [hv0e] at hi7
  clear hv0e
  have HI := Lib.hid hi7
  have HU := Lib.hid hu7
  have HN := Lib.hid hn7
  clear hi7 hu7 hn7 hh7 hg7 hk7
  go_region_held3 (fun w' => Below W8.heap.size W8 w' ∧ w'.cell? ⟨gh, 0, none⟩ = some (.int .u64 10) ∧ w'.cell? ⟨gh, 1, none⟩ = some (.int .i64 5) ∧ w'.cell? ⟨gh, 2, none⟩ = some (.int .i64 1) ∧ w'.cell? ⟨gh, 3, none⟩ = some (.bool false) ∧ w'.cell? ⟨gh, 4, none⟩ = some (.int .i64 0) ∧ w'.cell? ⟨gh, 5, none⟩ = some (.slice (some ⟨w.heap.size, 0, none⟩) 2 2) ∧ w'.cell? ⟨gh, 6, none⟩ = some (.slice none 0 0) ∧ w'.cell? ⟨gh, 7, none⟩ = some (.slice none 0 0) ∧ w'.cell? ⟨gh, 8, none⟩ = some (.slice none 0 0) ∧ w'.cell? ⟨gh, 9, none⟩ = some (.slice none 0 0) ∧ w'.cell? ⟨gu, 0, none⟩ = some (.int .u64 u.base) ∧ w'.cell? ⟨gu, 1, none⟩ = some (.int .i64 u.cap) ∧ w'.cell? ⟨gu, 2, none⟩ = some (.int .i64 u.tu) ∧ w'.cell? ⟨gu, 3, none⟩ = some (.bool u.cyc) ∧ w'.cell? ⟨gu, 4, none⟩ = some (.int .i64 u.scan) ∧ w'.cell? ⟨gu, 5, none⟩ = some (.slice u.low.a u.low.n u.low.c) ∧ w'.cell? ⟨gu, 6, none⟩ = some (.slice u.high.a u.high.n u.high.c) ∧ w'.cell? ⟨gu, 7, none⟩ = some (.slice u.old.a u.old.n u.old.c) ∧ w'.cell? ⟨gu, 8, none⟩ = some (.slice u.far.a u.far.n u.far.c) ∧ w'.cell? ⟨gu, 9, none⟩ = some (.slice u.roots.a u.roots.n u.roots.c) ∧ w'.cell? ⟨gn, 0, none⟩ = some (.int .u64 u5.base) ∧ w'.cell? ⟨gn, 1, none⟩ = some (.int .i64 u5.cap) ∧ w'.cell? ⟨gn, 2, none⟩ = some (.int .i64 u5.tu) ∧ w'.cell? ⟨gn, 3, none⟩ = some (.bool u5.cyc) ∧ w'.cell? ⟨gn, 4, none⟩ = some (.int .i64 u5.scan) ∧ w'.cell? ⟨gn, 5, none⟩ = some (.slice u5.low.a u5.low.n u5.low.c) ∧ w'.cell? ⟨gn, 6, none⟩ = some (.slice u5.high.a u5.high.n u5.high.c) ∧ w'.cell? ⟨gn, 7, none⟩ = some (.slice u5.old.a u5.old.n u5.old.c) ∧ w'.cell? ⟨gn, 8, none⟩ = some (.slice u5.far.a u5.far.n u5.far.c) ∧ w'.cell? ⟨gn, 9, none⟩ = some (.slice u5.roots.a u5.roots.n u5.roots.c))
    ((go_split_ands; refine ⟨?_, ?_, ?_, ?_, ?_, ?_, ?_, ?_, ?_, ?_, ?_, ?_, ?_, ?_, ?_, ?_, ?_, ?_, ?_, ?_, ?_, ?_, ?_, ?_, ?_, ?_, ?_, ?_, ?_, ?_, ?_⟩ <;> first | assumption | exact Below.drew (bl_refl _) | exact bl_alloc (by assumption) _ | exact cells_keep2 (by assumption) (bl_alloc (bl_refl _) _) | exact bl_step (by assumption) hB | exact cells_keep2 (by assumption) hB | (simp [go_sem, *]; done) | fail "not kept"))
    ((first
      | (go_at_call 32; (with_reducible refine (same1 u _ _ ?_ ?_).mono ?_); exact HU.out.below ((by assumption : Below W8.heap.size W8 _ ∧ _).1); exact ⟨by simp [go_sem], by simp [go_sem]⟩; intro e wa hr; obtain ⟨rfl, hB⟩ := hr.both)
      | (go_at_call 32; (with_reducible refine (same2 u5 _ _ ?_ ?_).mono ?_); exact HN.out.below ((by assumption : Below W8.heap.size W8 _ ∧ _).1); exact ⟨by simp [go_sem], by simp [go_sem]⟩; intro e wa hr; obtain ⟨rfl, hB⟩ := hr.both)
      | (go_at_call 36; (with_reducible refine (lay3 _ _).mono ?_); intro e wa hr; obtain ⟨rfl, hB⟩ := hr.both)
      | (go_at_call 38; (with_reducible refine (own3 _ _ ?_).mono ?_); exact HI.out.below ((by assumption : Below W8.heap.size W8 _ ∧ _).1); intro e wa hr; obtain ⟨o, rfl, ho, hB⟩ := hr)
      | (go_at_call 32; (with_reducible refine (same3 o _ _ ho ?_).mono ?_); exact HI.out.below ((by assumption : Below W8.heap.size W8 _ ∧ _).1); intro e wa hr; obtain ⟨rfl, hB⟩ := hr.both)
      | fail "no contract fits"))
  all_goals
    rename_i S
    clear HI HU HN
    obtain ⟨hbS, _⟩ := S
    go_wp2
  all_goals go_ret
  all_goals exact ⟨rfl, bl_step hb7 (by assumption)⟩
end Go.Proofs.Ytappejihclmjmaa
