/-
  Contract of layer 10: Own: the same heap in new memory. Condition: the value reads as a heap of at most 1000 words a part.
-/
import Derived.Test.YtappejihclmjmaaHB
import Derived.Test.YtappejihclmjmaaHApp
import Derived.LoopN
import Derived.Outline
namespace Go.Proofs.Ytappejihclmjmaa
open Go.RowKit
attribute [local go_sem ↓] Go.wp_at_zero Go.wp_at_succ

/-- The slice reads as the list, and lies in memory of its own, from block B on and below B2. -/
def Fresh (w : World) (B B2 : Nat) (s : Sl) (l : List Nat) : Prop :=
  s.Is w l ∧ (0 < l.length → ∃ b, s.a = some ⟨b, 0, none⟩ ∧ B ≤ b ∧ b < B2 ∧ ∀ i, i < l.length → w.frozen? ⟨b, i, none⟩ = false)
theorem Fresh.belowB {w w' : World} {B B2 C : Nat} {s : Sl} {l : List Nat} (h : Fresh w B B2 s l) (hb : Below C w w') (hC : B2 ≤ C) : Fresh w' B B2 s l := by
  obtain ⟨⟨h1, h2, h3, h4⟩, h5⟩ := h
  have hcell : ∀ (b o : Nat), b < B2 → w'.cell? ⟨b, o, none⟩ = w.cell? ⟨b, o, none⟩ := fun b o hb2 => hb.cell (p := ⟨b, o, none⟩) (Nat.lt_of_lt_of_le hb2 hC)
  refine ⟨⟨h1, h2, h3, fun h0 => ?_⟩, fun h0 => ?_⟩
  · have h0' : 0 < l.length := by rwa [us_len] at h0
    obtain ⟨b, e, _, hlt, _⟩ := h5 h0'
    obtain ⟨b2, off, e2, hc⟩ := h4 h0
    rw [e] at e2
    injection e2 with e2
    injection e2 with e3 e4
    subst e3; subst e4
    exact ⟨b, 0, e, fun j u hu => (hcell b _ hlt).trans (hc j u hu)⟩
  · obtain ⟨b, e, hB, hlt, hf⟩ := h5 h0
    exact ⟨b, e, hB, hlt, fun i hi => (hb.frozen (p := ⟨b, i, none⟩) (Nat.lt_of_lt_of_le hlt hC)).trans (hf i hi)⟩
theorem Fresh.of_own {w : World} {B : Nat} {v' : Value} {L : List Nat} (h : w.ownsRow B 22 1 v' L.length (us L)) : ∃ s : Sl, v' = s.v ∧ Fresh w B w.heap.size s L := by
  obtain ⟨A, c, rfl⟩ := own_form h
  obtain ⟨hr, h1, h2, h3⟩ := Rd.of_own h
  refine ⟨⟨A, L.length, c⟩, rfl, ⟨rfl, h1, by unfold maxLen at h2; omega, hr⟩, fun h0 => ?_⟩
  rcases h.2 with ⟨_, h4⟩ | ⟨g, cap, cur, hv, hg, hh, hn, hm, hs, ht⟩
  · exfalso; omega
  · injection hv with e1 e2
    refine ⟨g, e1, hg, (Array.getElem?_eq_some_iff.1 hh).1, fun i hi => ?_⟩
    exact blk_frozen hh i

theorem blk_far {w : World} {b g i : Nat} {o : Obj} {u : Value} (h : w.heap[b]? = some o) (hne : b ≠ g) : (w.setCell ⟨g, i, none⟩ u).heap[b]? = some o := (Below.heap_setCell w ⟨g, i, none⟩ u b hne).trans h
theorem blk_below {w w' : World} {b B : Nat} {o : Obj} (h : w.heap[b]? = some o) (hb : Below B w w') (hB : b < B) : w'.heap[b]? = some o := (hb.block b hB).trans h
theorem Fresh.set {w : World} {B B2 g i : Nat} {s : Sl} {l : List Nat} {u : Value} (h : Fresh w B B2 s l) (hg : g < B) : Fresh (w.setCell ⟨g, i, none⟩ u) B B2 s l := by
  obtain ⟨⟨h1, h2, h3, h4⟩, h5⟩ := h
  have hcell : ∀ (b o : Nat), B ≤ b → (w.setCell ⟨g, i, none⟩ u).cell? ⟨b, o, none⟩ = w.cell? ⟨b, o, none⟩ := fun b o hb2 => World.cell?_setCell_other w ⟨g, i, none⟩ ⟨b, o, none⟩ u (fun e => by injection e with e; omega)
  refine ⟨⟨h1, h2, h3, fun h0 => ?_⟩, fun h0 => ?_⟩
  · have h0' : 0 < l.length := by rwa [us_len] at h0
    obtain ⟨b, e, hB, hlt, _⟩ := h5 h0'
    obtain ⟨b2, off, e2, hc⟩ := h4 h0
    rw [e] at e2
    injection e2 with e2
    injection e2 with e3 e4
    subst e3; subst e4
    exact ⟨b, 0, e, fun j u hu => (hcell b _ hB).trans (hc j u hu)⟩
  · obtain ⟨b, e, hB, hlt, hf⟩ := h5 h0
    exact ⟨b, e, hB, hlt, fun i hi => by rw [World.frozen?_setCell]; exact hf i hi⟩

/-- What Own hands back. -/
def OwnRet (v : Hv) (h : Hp) (w : World) (en : Ending) (w' : World) : Prop :=
  ∃ s1 s2 s3 s4 s5 : Sl, ∃ B1 B2 B3 B4 B5 : Nat, en = .returned (.agg (Hv.cells { v with low := s1, high := s2, old := s3, far := s4, roots := s5 })) ∧
    w.heap.size ≤ B1 ∧ B1 ≤ B2 ∧ B2 ≤ B3 ∧ B3 ≤ B4 ∧ B4 ≤ B5 ∧ B5 ≤ w'.heap.size ∧
    Fresh w' w.heap.size B1 s1 h.low ∧ Fresh w' B1 B2 s2 h.high ∧ Fresh w' B2 B3 s3 h.old ∧ Fresh w' B3 B4 s4 h.far ∧ Fresh w' B4 B5 s5 h.roots ∧ Below w.heap.size w w'
theorem Fresh.mono {w : World} {B B0 B2 : Nat} {s : Sl} {l : List Nat} (h : Fresh w B B2 s l) (h0 : B0 ≤ B) : Fresh w B0 B2 s l :=
  ⟨h.1, fun k => by obtain ⟨b, e, hB, hlt, hf⟩ := h.2 k; exact ⟨b, e, by omega, hlt, hf⟩⟩

set_option maxRecDepth 100000 in
set_option maxHeartbeats 4000000 in
theorem own_any (v : Hv) (h : Hp) (w : World) (his : v.Is w h) (k1 : h.low.length ≤ 1000) (k2 : h.high.length ≤ 1000) (k3 : h.old.length ≤ 1000) (k4 : h.far.length ≤ 1000) (k5 : h.roots.length ≤ 1000) :
    Calls Try.prog 38 #[.agg v.cells] w (OwnRet v h w) := by
  obtain ⟨hsc, h1, h2, h3, h4, h5⟩ := his
  clear hsc
  have H1 := Lib.hid h1
  have H2 := Lib.hid h2
  have H3 := Lib.hid h3
  have H4 := Lib.hid h4
  have H5 := Lib.hid h5
  clear h1 h2 h3 h4 h5
  simp only [Hv.cells, Sl.v]
  have HP := Lib.hid fun g p W a b => wpart_any g p W a b
  go_enter Try.func38, Try.ntmps38
  go_wp2_with fail
  have hx0 : (((w.alloc (.cells #[.int .u64 v.base, .int .i64 v.cap, .int .i64 v.tu, .bool v.cyc, .int .i64 v.scan, .slice v.low.a v.low.n v.low.c, .slice v.high.a v.high.n v.high.c, .slice v.old.a v.old.n v.old.c, .slice v.far.a v.far.n v.far.c, .slice v.roots.a v.roots.n v.roots.c] 50)).alloc (.cells #[.int .u64 0, .int .i64 0, .int .i64 0, .bool false, .int .i64 0, .slice none 0 0, .slice none 0 0, .slice none 0 0, .slice none 0 0, .slice none 0 0] 50)).alloc (.cells #[.int .u64 v.base, .int .i64 v.cap, .int .i64 v.tu, .bool v.cyc, .int .i64 v.scan, .slice v.low.a v.low.n v.low.c, .slice v.high.a v.high.n v.high.c, .slice v.old.a v.old.n v.old.c, .slice v.far.a v.far.n v.far.c, .slice v.roots.a v.roots.n v.roots.c] 81)).heap[w.heap.size]? = some (.cells #[.int .u64 v.base, .int .i64 v.cap, .int .i64 v.tu, .bool v.cyc, .int .i64 v.scan, .slice v.low.a v.low.n v.low.c, .slice v.high.a v.high.n v.high.c, .slice v.old.a v.old.n v.old.c, .slice v.far.a v.far.n v.far.c, .slice v.roots.a v.roots.n v.roots.c] 50 (0, 0)) :=
    blk_below (heap_alloc_new w _) (bl_alloc (bl_alloc (bl_refl _) _) _) (by simp)
  have hr0 : (((w.alloc (.cells #[.int .u64 v.base, .int .i64 v.cap, .int .i64 v.tu, .bool v.cyc, .int .i64 v.scan, .slice v.low.a v.low.n v.low.c, .slice v.high.a v.high.n v.high.c, .slice v.old.a v.old.n v.old.c, .slice v.far.a v.far.n v.far.c, .slice v.roots.a v.roots.n v.roots.c] 50)).alloc (.cells #[.int .u64 0, .int .i64 0, .int .i64 0, .bool false, .int .i64 0, .slice none 0 0, .slice none 0 0, .slice none 0 0, .slice none 0 0, .slice none 0 0] 50)).alloc (.cells #[.int .u64 v.base, .int .i64 v.cap, .int .i64 v.tu, .bool v.cyc, .int .i64 v.scan, .slice v.low.a v.low.n v.low.c, .slice v.high.a v.high.n v.high.c, .slice v.old.a v.old.n v.old.c, .slice v.far.a v.far.n v.far.c, .slice v.roots.a v.roots.n v.roots.c] 81)).heap[w.heap.size + 1]? = some (.cells #[.int .u64 0, .int .i64 0, .int .i64 0, .bool false, .int .i64 0, .slice none 0 0, .slice none 0 0, .slice none 0 0, .slice none 0 0, .slice none 0 0] 50 (0, 0)) := by
    rw [show w.heap.size + 1 = (w.alloc (.cells #[.int .u64 v.base, .int .i64 v.cap, .int .i64 v.tu, .bool v.cyc, .int .i64 v.scan, .slice v.low.a v.low.n v.low.c, .slice v.high.a v.high.n v.high.c, .slice v.old.a v.old.n v.old.c, .slice v.far.a v.far.n v.far.c, .slice v.roots.a v.roots.n v.roots.c] 50)).heap.size by simp]
    exact blk_below (heap_alloc_new _ _) (bl_alloc (bl_refl _) _) (by simp)
  have hk0 : (((w.alloc (.cells #[.int .u64 v.base, .int .i64 v.cap, .int .i64 v.tu, .bool v.cyc, .int .i64 v.scan, .slice v.low.a v.low.n v.low.c, .slice v.high.a v.high.n v.high.c, .slice v.old.a v.old.n v.old.c, .slice v.far.a v.far.n v.far.c, .slice v.roots.a v.roots.n v.roots.c] 50)).alloc (.cells #[.int .u64 0, .int .i64 0, .int .i64 0, .bool false, .int .i64 0, .slice none 0 0, .slice none 0 0, .slice none 0 0, .slice none 0 0, .slice none 0 0] 50)).alloc (.cells #[.int .u64 v.base, .int .i64 v.cap, .int .i64 v.tu, .bool v.cyc, .int .i64 v.scan, .slice v.low.a v.low.n v.low.c, .slice v.high.a v.high.n v.high.c, .slice v.old.a v.old.n v.old.c, .slice v.far.a v.far.n v.far.c, .slice v.roots.a v.roots.n v.roots.c] 81)).heap[w.heap.size + 1 + 1]? = some (.cells #[.int .u64 v.base, .int .i64 v.cap, .int .i64 v.tu, .bool v.cyc, .int .i64 v.scan, .slice v.low.a v.low.n v.low.c, .slice v.high.a v.high.n v.high.c, .slice v.old.a v.old.n v.old.c, .slice v.far.a v.far.n v.far.c, .slice v.roots.a v.roots.n v.roots.c] 81 (0, 0)) := by
    rw [show w.heap.size + 1 + 1 = ((w.alloc (.cells #[.int .u64 v.base, .int .i64 v.cap, .int .i64 v.tu, .bool v.cyc, .int .i64 v.scan, .slice v.low.a v.low.n v.low.c, .slice v.high.a v.high.n v.high.c, .slice v.old.a v.old.n v.old.c, .slice v.far.a v.far.n v.far.c, .slice v.roots.a v.roots.n v.roots.c] 50)).alloc (.cells #[.int .u64 0, .int .i64 0, .int .i64 0, .bool false, .int .i64 0, .slice none 0 0, .slice none 0 0, .slice none 0 0, .slice none 0 0, .slice none 0 0] 50)).heap.size by simp]
    exact heap_alloc_new _ _
  have hb0 : Below w.heap.size w (((w.alloc (.cells #[.int .u64 v.base, .int .i64 v.cap, .int .i64 v.tu, .bool v.cyc, .int .i64 v.scan, .slice v.low.a v.low.n v.low.c, .slice v.high.a v.high.n v.high.c, .slice v.old.a v.old.n v.old.c, .slice v.far.a v.far.n v.far.c, .slice v.roots.a v.roots.n v.roots.c] 50)).alloc (.cells #[.int .u64 0, .int .i64 0, .int .i64 0, .bool false, .int .i64 0, .slice none 0 0, .slice none 0 0, .slice none 0 0, .slice none 0 0, .slice none 0 0] 50)).alloc (.cells #[.int .u64 v.base, .int .i64 v.cap, .int .i64 v.tu, .bool v.cyc, .int .i64 v.scan, .slice v.low.a v.low.n v.low.c, .slice v.high.a v.high.n v.high.c, .slice v.old.a v.old.n v.old.c, .slice v.far.a v.far.n v.far.c, .slice v.roots.a v.roots.n v.roots.c] 81)) := bl_alloc (bl_alloc (bl_alloc (bl_refl w) _) _) _
  obtain ⟨W0, hW0⟩ : ∃ W, W = ((w.alloc (.cells #[.int .u64 v.base, .int .i64 v.cap, .int .i64 v.tu, .bool v.cyc, .int .i64 v.scan, .slice v.low.a v.low.n v.low.c, .slice v.high.a v.high.n v.high.c, .slice v.old.a v.old.n v.old.c, .slice v.far.a v.far.n v.far.c, .slice v.roots.a v.roots.n v.roots.c] 50)).alloc (.cells #[.int .u64 0, .int .i64 0, .int .i64 0, .bool false, .int .i64 0, .slice none 0 0, .slice none 0 0, .slice none 0 0, .slice none 0 0, .slice none 0 0] 50)).alloc (.cells #[.int .u64 v.base, .int .i64 v.cap, .int .i64 v.tu, .bool v.cyc, .int .i64 v.scan, .slice v.low.a v.low.n v.low.c, .slice v.high.a v.high.n v.high.c, .slice v.old.a v.old.n v.old.c, .slice v.far.a v.far.n v.far.c, .slice v.roots.a v.roots.n v.roots.c] 81) := ⟨_, rfl⟩
  rw [← hW0] at hx0 hr0 hk0 hb0 ⊢
  clear hW0
  obtain ⟨g, hg⟩ : ∃ g, g = w.heap.size + 1 + 1 := ⟨_, rfl⟩
  rw [← hg] at hk0 ⊢
  obtain ⟨gr, hgr⟩ : ∃ g, g = w.heap.size + 1 := ⟨_, rfl⟩
  rw [← hgr] at hr0 ⊢
  obtain ⟨gx, hgx⟩ : ∃ g, g = w.heap.size := ⟨_, rfl⟩
  rw [← hgx] at hx0 ⊢
  have nrg : gr ≠ g := by omega
  have nxg : gx ≠ g := by omega
  have nwg : w.heap.size ≤ g := by omega
  have nwr : w.heap.size ≤ gr := by omega
  have hG : g < W0.heap.size := lt_of_heap hk0
  have hGr0 : gr < W0.heap.size := lt_of_heap hr0
  have hGw : w.heap.size ≤ W0.heap.size := hb0.size
  have ngr : g ≠ gr := by omega
  clear hg hgr hgx
  refine wp_loop_rounds 5 ?_
  rw [rounds_succ]
  go_wp2_with fail
  refine (HP.out _ _ _ (by omega) (by omega)).mono ?_
  intro e w1 hr
  obtain ⟨rfl, hb⟩ := hr.both
  have hx1 := blk_below hx0 hb (lt_of_heap hx0)
  have hr1 := blk_below hr0 hb (lt_of_heap hr0)
  have hk1 := blk_below hk0 hb (lt_of_heap hk0)
  have hb1 := bl_step hb0 hb
  have hZ1 := hb.size
  have hG1 : W0.heap.size ≤ w1.heap.size := by omega
  have hsrc := (H1.out.below hb1)
  obtain ⟨q1, q2, q3, q4⟩ := hsrc
  have c5 : w1.cell? ⟨g, 5, none⟩ = some (.slice v.low.a v.low.n v.low.c) := blk_cell hk1 5
  rw [← q1] at c5
  have Q4 := Lib.hid q4
  clear hr q1 q2 q3 q4 hb hx0 hr0 hk0 hb0
  go_wp2_with (at_builtin; refine wpList_append_rd rfl _ _ rfl w1.heap.size (.slice none 0 0) 0 [] rfl (World.ownsRow_nil _ _ _ _) (Nat.le_refl _) v.low.a v.low.c h.low rfl Q4.out (by omega) ?_)
  intro v' u1 ho hb
  obtain ⟨s1, rfl, hs1⟩ := Fresh.of_own ho
  have hx1 := blk_below hx1 hb (lt_of_heap hx1)
  have hr1 := blk_below hr1 hb (lt_of_heap hr1)
  have hk1 := blk_below hk1 hb (lt_of_heap hk1)
  have hb1 := bl_step hb1 hb
  have d5 : u1.cell? ⟨g, 5, none⟩ = some (.slice v.low.a v.low.n v.low.c) := blk_cell hk1 5
  have e5 : u1.frozen? ⟨g, 5, none⟩ = false := blk_frozen hk1 5
  have hU : w1.heap.size ≤ u1.heap.size := hb.size
  clear ho hb Q4 c5
  simp only [Sl.v]
  go_wp2_with fail
  have hx1 := blk_far (g := g) (i := 5) (u := .slice s1.a s1.n s1.c) hx1 nxg
  have hr1 := blk_far (g := g) (i := 5) (u := .slice s1.a s1.n s1.c) hr1 nrg
  have hk1 := blk_set hk1 5 (.slice s1.a s1.n s1.c)
  have hb1 := hb1.setCell (p := ⟨g, 5, none⟩) nwg (.slice s1.a s1.n s1.c)
  have hs1 := hs1.set (g := g) (i := 5) (u := .slice s1.a s1.n s1.c) (by omega)
  simp only [List.setIfInBounds_toArray, List.set_cons_zero, List.set_cons_succ] at hk1
  have hS1 : (u1.setCell ⟨g, 5, none⟩ (.slice s1.a s1.n s1.c)).heap.size = u1.heap.size := by simp [World.setCell]
  obtain ⟨X1, hX⟩ : ∃ X, X = u1.setCell ⟨g, 5, none⟩ (.slice s1.a s1.n s1.c) := ⟨_, rfl⟩
  rw [← hX] at hx1 hr1 hk1 hb1 hS1 hs1 ⊢
  have hSa1 : X1.heap.size ≤ u1.heap.size := by omega
  have hSb1 : u1.heap.size ≤ X1.heap.size := by omega
  clear hX d5 e5 hS1
  rw [rounds_succ]
  go_wp2_with fail
  refine (HP.out _ _ _ (by omega) (by omega)).mono ?_
  intro e w2 hr
  obtain ⟨rfl, hb⟩ := hr.both
  have hx2 := blk_below hx1 hb (lt_of_heap hx1)
  have hr2 := blk_below hr1 hb (lt_of_heap hr1)
  have hk2 := blk_below hk1 hb (lt_of_heap hk1)
  have hb2 := bl_step hb1 hb
  have hZ2 := hb.size
  have hG2 : W0.heap.size ≤ w2.heap.size := by omega
  have hs1 := hs1.belowB hb (by omega)
  have hsrc := (H2.out.below hb2)
  obtain ⟨q1, q2, q3, q4⟩ := hsrc
  have c6 : w2.cell? ⟨g, 6, none⟩ = some (.slice v.high.a v.high.n v.high.c) := blk_cell hk2 6
  rw [← q1] at c6
  have Q4 := Lib.hid q4
  clear hr q1 q2 q3 q4 hb hx1 hr1 hk1 hb1
  go_wp2_with (at_builtin; refine wpList_append_rd rfl _ _ rfl w2.heap.size (.slice none 0 0) 0 [] rfl (World.ownsRow_nil _ _ _ _) (Nat.le_refl _) v.high.a v.high.c h.high rfl Q4.out (by omega) ?_)
  intro v' u2 ho hb
  obtain ⟨s2, rfl, hs2⟩ := Fresh.of_own ho
  have hx2 := blk_below hx2 hb (lt_of_heap hx2)
  have hr2 := blk_below hr2 hb (lt_of_heap hr2)
  have hk2 := blk_below hk2 hb (lt_of_heap hk2)
  have hb2 := bl_step hb2 hb
  have d6 : u2.cell? ⟨g, 6, none⟩ = some (.slice v.high.a v.high.n v.high.c) := blk_cell hk2 6
  have e6 : u2.frozen? ⟨g, 6, none⟩ = false := blk_frozen hk2 6
  have hU : w2.heap.size ≤ u2.heap.size := hb.size
  have hs1 := hs1.belowB hb (by omega)
  clear ho hb Q4 c6
  simp only [Sl.v]
  go_wp2_with fail
  have hx2 := blk_far (g := g) (i := 6) (u := .slice s2.a s2.n s2.c) hx2 nxg
  have hr2 := blk_far (g := g) (i := 6) (u := .slice s2.a s2.n s2.c) hr2 nrg
  have hk2 := blk_set hk2 6 (.slice s2.a s2.n s2.c)
  have hb2 := hb2.setCell (p := ⟨g, 6, none⟩) nwg (.slice s2.a s2.n s2.c)
  have hs1 := hs1.set (g := g) (i := 6) (u := .slice s2.a s2.n s2.c) (by omega)
  have hs2 := hs2.set (g := g) (i := 6) (u := .slice s2.a s2.n s2.c) (by omega)
  simp only [List.setIfInBounds_toArray, List.set_cons_zero, List.set_cons_succ] at hk2
  have hS2 : (u2.setCell ⟨g, 6, none⟩ (.slice s2.a s2.n s2.c)).heap.size = u2.heap.size := by simp [World.setCell]
  obtain ⟨X2, hX⟩ : ∃ X, X = u2.setCell ⟨g, 6, none⟩ (.slice s2.a s2.n s2.c) := ⟨_, rfl⟩
  rw [← hX] at hx2 hr2 hk2 hb2 hS2 hs1 hs2 ⊢
  have hSa2 : X2.heap.size ≤ u2.heap.size := by omega
  have hSb2 : u2.heap.size ≤ X2.heap.size := by omega
  clear hX d6 e6 hS2
  rw [rounds_succ]
  go_wp2_with fail
  refine (HP.out _ _ _ (by omega) (by omega)).mono ?_
  intro e w3 hr
  obtain ⟨rfl, hb⟩ := hr.both
  have hx3 := blk_below hx2 hb (lt_of_heap hx2)
  have hr3 := blk_below hr2 hb (lt_of_heap hr2)
  have hk3 := blk_below hk2 hb (lt_of_heap hk2)
  have hb3 := bl_step hb2 hb
  have hZ3 := hb.size
  have hG3 : W0.heap.size ≤ w3.heap.size := by omega
  have hs1 := hs1.belowB hb (by omega)
  have hs2 := hs2.belowB hb (by omega)
  have hsrc := (H3.out.below hb3)
  obtain ⟨q1, q2, q3, q4⟩ := hsrc
  have c7 : w3.cell? ⟨g, 7, none⟩ = some (.slice v.old.a v.old.n v.old.c) := blk_cell hk3 7
  rw [← q1] at c7
  have Q4 := Lib.hid q4
  clear hr q1 q2 q3 q4 hb hx2 hr2 hk2 hb2
  go_wp2_with (at_builtin; refine wpList_append_rd rfl _ _ rfl w3.heap.size (.slice none 0 0) 0 [] rfl (World.ownsRow_nil _ _ _ _) (Nat.le_refl _) v.old.a v.old.c h.old rfl Q4.out (by omega) ?_)
  intro v' u3 ho hb
  obtain ⟨s3, rfl, hs3⟩ := Fresh.of_own ho
  have hx3 := blk_below hx3 hb (lt_of_heap hx3)
  have hr3 := blk_below hr3 hb (lt_of_heap hr3)
  have hk3 := blk_below hk3 hb (lt_of_heap hk3)
  have hb3 := bl_step hb3 hb
  have d7 : u3.cell? ⟨g, 7, none⟩ = some (.slice v.old.a v.old.n v.old.c) := blk_cell hk3 7
  have e7 : u3.frozen? ⟨g, 7, none⟩ = false := blk_frozen hk3 7
  have hU : w3.heap.size ≤ u3.heap.size := hb.size
  have hs1 := hs1.belowB hb (by omega)
  have hs2 := hs2.belowB hb (by omega)
  clear ho hb Q4 c7
  simp only [Sl.v]
  go_wp2_with fail
  have hx3 := blk_far (g := g) (i := 7) (u := .slice s3.a s3.n s3.c) hx3 nxg
  have hr3 := blk_far (g := g) (i := 7) (u := .slice s3.a s3.n s3.c) hr3 nrg
  have hk3 := blk_set hk3 7 (.slice s3.a s3.n s3.c)
  have hb3 := hb3.setCell (p := ⟨g, 7, none⟩) nwg (.slice s3.a s3.n s3.c)
  have hs1 := hs1.set (g := g) (i := 7) (u := .slice s3.a s3.n s3.c) (by omega)
  have hs2 := hs2.set (g := g) (i := 7) (u := .slice s3.a s3.n s3.c) (by omega)
  have hs3 := hs3.set (g := g) (i := 7) (u := .slice s3.a s3.n s3.c) (by omega)
  simp only [List.setIfInBounds_toArray, List.set_cons_zero, List.set_cons_succ] at hk3
  have hS3 : (u3.setCell ⟨g, 7, none⟩ (.slice s3.a s3.n s3.c)).heap.size = u3.heap.size := by simp [World.setCell]
  obtain ⟨X3, hX⟩ : ∃ X, X = u3.setCell ⟨g, 7, none⟩ (.slice s3.a s3.n s3.c) := ⟨_, rfl⟩
  rw [← hX] at hx3 hr3 hk3 hb3 hS3 hs1 hs2 hs3 ⊢
  have hSa3 : X3.heap.size ≤ u3.heap.size := by omega
  have hSb3 : u3.heap.size ≤ X3.heap.size := by omega
  clear hX d7 e7 hS3
  rw [rounds_succ]
  go_wp2_with fail
  refine (HP.out _ _ _ (by omega) (by omega)).mono ?_
  intro e w4 hr
  obtain ⟨rfl, hb⟩ := hr.both
  have hx4 := blk_below hx3 hb (lt_of_heap hx3)
  have hr4 := blk_below hr3 hb (lt_of_heap hr3)
  have hk4 := blk_below hk3 hb (lt_of_heap hk3)
  have hb4 := bl_step hb3 hb
  have hZ4 := hb.size
  have hG4 : W0.heap.size ≤ w4.heap.size := by omega
  have hs1 := hs1.belowB hb (by omega)
  have hs2 := hs2.belowB hb (by omega)
  have hs3 := hs3.belowB hb (by omega)
  have hsrc := (H4.out.below hb4)
  obtain ⟨q1, q2, q3, q4⟩ := hsrc
  have c8 : w4.cell? ⟨g, 8, none⟩ = some (.slice v.far.a v.far.n v.far.c) := blk_cell hk4 8
  rw [← q1] at c8
  have Q4 := Lib.hid q4
  clear hr q1 q2 q3 q4 hb hx3 hr3 hk3 hb3
  go_wp2_with (at_builtin; refine wpList_append_rd rfl _ _ rfl w4.heap.size (.slice none 0 0) 0 [] rfl (World.ownsRow_nil _ _ _ _) (Nat.le_refl _) v.far.a v.far.c h.far rfl Q4.out (by omega) ?_)
  intro v' u4 ho hb
  obtain ⟨s4, rfl, hs4⟩ := Fresh.of_own ho
  have hx4 := blk_below hx4 hb (lt_of_heap hx4)
  have hr4 := blk_below hr4 hb (lt_of_heap hr4)
  have hk4 := blk_below hk4 hb (lt_of_heap hk4)
  have hb4 := bl_step hb4 hb
  have d8 : u4.cell? ⟨g, 8, none⟩ = some (.slice v.far.a v.far.n v.far.c) := blk_cell hk4 8
  have e8 : u4.frozen? ⟨g, 8, none⟩ = false := blk_frozen hk4 8
  have hU : w4.heap.size ≤ u4.heap.size := hb.size
  have hs1 := hs1.belowB hb (by omega)
  have hs2 := hs2.belowB hb (by omega)
  have hs3 := hs3.belowB hb (by omega)
  clear ho hb Q4 c8
  simp only [Sl.v]
  go_wp2_with fail
  have hx4 := blk_far (g := g) (i := 8) (u := .slice s4.a s4.n s4.c) hx4 nxg
  have hr4 := blk_far (g := g) (i := 8) (u := .slice s4.a s4.n s4.c) hr4 nrg
  have hk4 := blk_set hk4 8 (.slice s4.a s4.n s4.c)
  have hb4 := hb4.setCell (p := ⟨g, 8, none⟩) nwg (.slice s4.a s4.n s4.c)
  have hs1 := hs1.set (g := g) (i := 8) (u := .slice s4.a s4.n s4.c) (by omega)
  have hs2 := hs2.set (g := g) (i := 8) (u := .slice s4.a s4.n s4.c) (by omega)
  have hs3 := hs3.set (g := g) (i := 8) (u := .slice s4.a s4.n s4.c) (by omega)
  have hs4 := hs4.set (g := g) (i := 8) (u := .slice s4.a s4.n s4.c) (by omega)
  simp only [List.setIfInBounds_toArray, List.set_cons_zero, List.set_cons_succ] at hk4
  have hS4 : (u4.setCell ⟨g, 8, none⟩ (.slice s4.a s4.n s4.c)).heap.size = u4.heap.size := by simp [World.setCell]
  obtain ⟨X4, hX⟩ : ∃ X, X = u4.setCell ⟨g, 8, none⟩ (.slice s4.a s4.n s4.c) := ⟨_, rfl⟩
  rw [← hX] at hx4 hr4 hk4 hb4 hS4 hs1 hs2 hs3 hs4 ⊢
  have hSa4 : X4.heap.size ≤ u4.heap.size := by omega
  have hSb4 : u4.heap.size ≤ X4.heap.size := by omega
  clear hX d8 e8 hS4
  have hsrc := (H5.out.below hb4)
  obtain ⟨q1, q2, q3, q4⟩ := hsrc
  have c9 : X4.cell? ⟨gx, 9, none⟩ = some (.slice v.roots.a v.roots.n v.roots.c) := blk_cell hx4 9
  rw [← q1] at c9
  have Q4 := Lib.hid q4
  clear q1 q2 q3 q4
  rw [rounds_succ]
  go_wp2_with (at_builtin; refine wpList_append_rd rfl _ _ rfl X4.heap.size (.slice none 0 0) 0 [] rfl (World.ownsRow_nil _ _ _ _) (Nat.le_refl _) v.roots.a v.roots.c h.roots rfl Q4.out (by omega) ?_)
  intro v' u5 ho hb
  obtain ⟨s5, rfl, hs5⟩ := Fresh.of_own ho
  have hr5 := blk_below hr4 hb (lt_of_heap hr4)
  have hk5 := blk_below hk4 hb (lt_of_heap hk4)
  have hb5 := bl_step hb4 hb
  have hU5 : X4.heap.size ≤ u5.heap.size := hb.size
  have hs1 := hs1.belowB hb (by omega)
  have hs2 := hs2.belowB hb (by omega)
  have hs3 := hs3.belowB hb (by omega)
  have hs4 := hs4.belowB hb (by omega)
  have d0 : u5.cell? ⟨g, 0, none⟩ = some (.int .u64 v.base) := blk_cell hk5 0
  have r0 : u5.cell? ⟨gr, 0, none⟩ = some (.int .u64 0) := blk_cell hr5 0
  have d1 : u5.cell? ⟨g, 1, none⟩ = some (.int .i64 v.cap) := blk_cell hk5 1
  have r1 : u5.cell? ⟨gr, 1, none⟩ = some (.int .i64 0) := blk_cell hr5 1
  have d2 : u5.cell? ⟨g, 2, none⟩ = some (.int .i64 v.tu) := blk_cell hk5 2
  have r2 : u5.cell? ⟨gr, 2, none⟩ = some (.int .i64 0) := blk_cell hr5 2
  have d3 : u5.cell? ⟨g, 3, none⟩ = some (.bool v.cyc) := blk_cell hk5 3
  have r3 : u5.cell? ⟨gr, 3, none⟩ = some (.bool false) := blk_cell hr5 3
  have d4 : u5.cell? ⟨g, 4, none⟩ = some (.int .i64 v.scan) := blk_cell hk5 4
  have r4 : u5.cell? ⟨gr, 4, none⟩ = some (.int .i64 0) := blk_cell hr5 4
  have d5 : u5.cell? ⟨g, 5, none⟩ = some (.slice s1.a s1.n s1.c) := blk_cell hk5 5
  have r5 : u5.cell? ⟨gr, 5, none⟩ = some (.slice none 0 0) := blk_cell hr5 5
  have d6 : u5.cell? ⟨g, 6, none⟩ = some (.slice s2.a s2.n s2.c) := blk_cell hk5 6
  have r6 : u5.cell? ⟨gr, 6, none⟩ = some (.slice none 0 0) := blk_cell hr5 6
  have d7 : u5.cell? ⟨g, 7, none⟩ = some (.slice s3.a s3.n s3.c) := blk_cell hk5 7
  have r7 : u5.cell? ⟨gr, 7, none⟩ = some (.slice none 0 0) := blk_cell hr5 7
  have d8 : u5.cell? ⟨g, 8, none⟩ = some (.slice s4.a s4.n s4.c) := blk_cell hk5 8
  have r8 : u5.cell? ⟨gr, 8, none⟩ = some (.slice none 0 0) := blk_cell hr5 8
  have d9 : u5.cell? ⟨g, 9, none⟩ = some (.slice v.roots.a v.roots.n v.roots.c) := blk_cell hk5 9
  have r9 : u5.cell? ⟨gr, 9, none⟩ = some (.slice none 0 0) := blk_cell hr5 9
  have fg := fun i => blk_frozen hk5 i
  have fr := fun i => blk_frozen hr5 i
  clear ho hb Q4 c9 hx4 hr4 hk4 hb4 hr5 hk5
  simp only [Sl.v]
  have hGr : gr < W0.heap.size := by omega
  go_wp2
  refine bodyPost_ret (v := .agg #[.int .u64 v.base, .int .i64 v.cap, .int .i64 v.tu, .bool v.cyc, .int .i64 v.scan, .slice s1.a s1.n s1.c, .slice s2.a s2.n s2.c, .slice s3.a s3.n s3.c, .slice s4.a s4.n s4.c, .slice s5.a s5.n s5.c]) (by simp [results, Try.results38, go_sem, nrg, ngr, r0, r1, r2, r3, r4, r5, r6, r7, r8, r9, d0, d1, d2, d3, d4, d5, d6, d7, d8, d9]) rfl ?_
  refine ⟨s1, s2, s3, s4, s5, u1.heap.size, u2.heap.size, u3.heap.size, u4.heap.size, u5.heap.size, rfl, ?_, ?_, ?_, ?_, ?_, ?_, ?_, ?_, ?_, ?_, ?_, ?_⟩
  · have := hb5.size; omega
  · omega
  · omega
  · omega
  · omega
  · simp [World.setCell]
  · refine Fresh.mono (B := w1.heap.size) ?_ (by omega)
    repeat (with_reducible refine Fresh.set ?_ (by omega))
    exact hs1
  · refine Fresh.mono (B := w2.heap.size) ?_ (by omega)
    repeat (with_reducible refine Fresh.set ?_ (by omega))
    exact hs2
  · refine Fresh.mono (B := w3.heap.size) ?_ (by omega)
    repeat (with_reducible refine Fresh.set ?_ (by omega))
    exact hs3
  · refine Fresh.mono (B := w4.heap.size) ?_ (by omega)
    repeat (with_reducible refine Fresh.set ?_ (by omega))
    exact hs4
  · refine Fresh.mono (B := X4.heap.size) ?_ (by omega)
    repeat (with_reducible refine Fresh.set ?_ (by omega))
    exact hs5
  · repeat (with_reducible refine Below.setCell ?_ (by first | exact nwr | exact nwg) _)
    exact hb5
end Go.Proofs.Ytappejihclmjmaa
