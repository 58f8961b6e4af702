/-
  Contract of layer 10: Write. Conditions: the value reads as a heap whose numbers fit, of at most 1000 words a part.
-/
import Derived.Test.YtappejihclmjmaaHC
namespace Go.Proofs.Ytappejihclmjmaa
open Go.RowKit
attribute [local go_sem ↓] Go.wp_at_zero Go.wp_at_succ

/-- A heap and an error's number are handed back. -/
def HeapRet (h : Hp) (E : Int) (w : World) (en : Ending) (w' : World) : Prop := ∃ u : Hv, en = .returned (.tuple #[.agg u.cells, .int .i64 E]) ∧ u.Is w' h ∧ Below w.heap.size w w'
def hpz : Hp := ⟨0, 0, 0, false, 0, [], [], [], [], []⟩
def hvz : Hv := ⟨0, 0, 0, false, 0, .nil, .nil, .nil, .nil, .nil⟩
theorem nil_is (w : World) : Sl.nil.Is w [] := ⟨rfl, Nat.le_refl _, by simp [Sl.nil], Rd.none_ _ _⟩
theorem hvz_is (w : World) : hvz.Is w hpz := ⟨⟨rfl, rfl, rfl, rfl, rfl⟩, nil_is w, nil_is w, nil_is w, nil_is w, nil_is w⟩
/-- What Write hands back. -/
def wrR (h : Hp) (y : Int) (x : Nat) : Hp := if h.lay.Ok ∧ fndK h.lay y ≠ 0 then wrH h y x else hpz

theorem us_set (l : List Nat) (i x : Nat) : us (l.set i x) = (us l).set i (.int .u64 (x : Int)) := by simp [us, List.map_set]
/-- The word that was stored is read. -/
theorem Fresh.put {w : World} {B B2 b i x : Nat} {s : Sl} {l : List Nat} (h : Fresh w B B2 s l) (hb : s.a = some ⟨b, 0, none⟩) (hi : i < l.length) : Fresh (w.setCell ⟨b, i, none⟩ (.int .u64 (x : Int))) B B2 s (l.set i x) := by
  obtain ⟨⟨h1, h2, h3, h4⟩, h5⟩ := h
  refine ⟨⟨by rw [List.length_set]; exact h1, h2, h3, fun h0 => ?_⟩, fun h0 => ?_⟩
  · obtain ⟨b2, off, e2, hc⟩ := h4 (by rw [us_len]; omega)
    rw [hb] at e2
    injection e2 with e2
    injection e2 with e3 e4
    subst e3; subst e4
    refine ⟨b, 0, hb, fun j u hu => ?_⟩
    rw [us_set] at hu
    rw [Nat.zero_add]
    by_cases e : j = i
    · subst e
      rw [List.getElem?_set_self (by rw [us_len]; exact hi)] at hu
      injection hu with hu
      subst hu
      have hcell := hc j _ (us_get l j hi)
      rw [Nat.zero_add] at hcell
      rw [World.cell?_setCell_same' w ⟨b, j, none⟩ _ (by rw [hcell]; rfl)]
    · rw [List.getElem?_set_ne (Ne.symm e)] at hu
      have := hc j u hu
      rw [Nat.zero_add] at this
      rw [World.cell?_setCell_other w ⟨b, i, none⟩ ⟨b, j, none⟩ _ (fun e2 => e (congrArg Addr.off e2).symm)]
      exact this
  · rw [List.length_set] at h0
    obtain ⟨b2, e, hB, hlt, hf⟩ := h5 h0
    exact ⟨b2, e, hB, hlt, fun j hj => by rw [World.frozen?_setCell]; exact hf j (by rwa [List.length_set] at hj)⟩
theorem Fresh.far {w : World} {B B2 g i : Nat} {s : Sl} {l : List Nat} {u : Value} (h : Fresh w B B2 s l) (hg : g < B ∨ B2 ≤ g) : Fresh (w.setCell ⟨g, i, none⟩ u) B B2 s l := by
  obtain ⟨⟨h1, h2, h3, h4⟩, h5⟩ := h
  have hcell : ∀ (b o : Nat), B ≤ b → b < B2 → (w.setCell ⟨g, i, none⟩ u).cell? ⟨b, o, none⟩ = w.cell? ⟨b, o, none⟩ := fun b o hb2 hb3 => World.cell?_setCell_other w ⟨g, i, none⟩ ⟨b, o, none⟩ u (fun e => by injection e with e; omega)
  refine ⟨⟨h1, h2, h3, fun h0 => ?_⟩, fun h0 => ?_⟩
  · have h0' : 0 < l.length := by rwa [us_len] at h0
    obtain ⟨b, e, hB, hlt, _⟩ := h5 h0'
    obtain ⟨b2, off, e2, hc⟩ := h4 h0
    rw [e] at e2
    injection e2 with e2
    injection e2 with e3 e4
    subst e3; subst e4
    exact ⟨b, 0, e, fun j u hu => (hcell b _ hB hlt).trans (hc j u hu)⟩
  · obtain ⟨b, e, hB, hlt, hf⟩ := h5 h0
    exact ⟨b, e, hB, hlt, fun i hi => by rw [World.frozen?_setCell]; exact hf i hi⟩

theorem HeapAt.of_blk {w : World} {g : Nat} {v : Hv} {t : TypeId} {z : Nat × Nat} (h : w.heap[g]? = some (.cells v.cells t z)) : HeapAt w g v :=
  ⟨blk_cell h 0, blk_cell h 1, blk_cell h 2, blk_cell h 3, blk_cell h 4, blk_cell h 5, blk_cell h 6, blk_cell h 7, blk_cell h 8, blk_cell h 9⟩

set_option maxRecDepth 100000 in
set_option maxHeartbeats 2000000 in
theorem write_no (v : Hv) (h : Hp) (y : Int) (x : Nat) (w : World) (his : v.Is w h) (wf : h.lay.Wf) (hy1 : 0 ≤ y) (hy2 : y < 18446744073709551616) (hf : ¬ (h.lay.Ok ∧ fndK h.lay y ≠ 0)) :
    Calls Try.prog 41 #[.agg v.cells, .int .u64 y, .int .u64 (x : Int)] w (HeapRet (wrR h y x) (fndE h.lay y) w) := by
  have HL := Lib.hid fun W => hlayout_any v W
  have HF := Lib.hid fun W => find_any h.lay y W wf hy1 hy2
  rw [his.lay] at HL
  have hE : ∃ P I E : Int, fndV h.lay y = .tuple #[.agg #[.int .i64 P, .int .i64 I], .int .i64 E] ∧ E = fndE h.lay y := ⟨_, _, _, rfl, rfl⟩
  obtain ⟨P, I, E, hV, hEe⟩ := hE
  have hne : (E != 0) = true := by
    rw [hEe, fndE]
    by_cases c : h.lay.Ok
    · rw [if_pos c, if_pos (by
        by_cases d : fndK h.lay y = 0
        · exact d
        · exact absurd ⟨c, d⟩ hf)]
      rfl
    · rw [if_neg c]; rfl
  rw [hV] at HF
  rw [wrR, if_neg hf, ← hEe]
  clear hV hEe hf his wf
  simp only [Hv.cells, Sl.v, Lay.cells] at HL HF ⊢
  go_enter Try.func41, Try.ntmps41
  go_wp2_with fail
  have hr0 : ((w.alloc (.cells v.cells 50)).alloc (.cells #[.int .u64 0, .int .i64 0, .int .i64 0, .bool false, .int .i64 0, .slice none 0 0, .slice none 0 0, .slice none 0 0, .slice none 0 0, .slice none 0 0] 50)).heap[w.heap.size + 1]? = some (.cells #[.int .u64 0, .int .i64 0, .int .i64 0, .bool false, .int .i64 0, .slice none 0 0, .slice none 0 0, .slice none 0 0, .slice none 0 0, .slice none 0 0] 50 (0, 0)) := by
    rw [show w.heap.size + 1 = (w.alloc (.cells v.cells 50)).heap.size by simp]
    exact heap_alloc_new _ _
  have hb0 : Below w.heap.size w ((w.alloc (.cells v.cells 50)).alloc (.cells #[.int .u64 0, .int .i64 0, .int .i64 0, .bool false, .int .i64 0, .slice none 0 0, .slice none 0 0, .slice none 0 0, .slice none 0 0, .slice none 0 0] 50)) := bl_alloc (bl_alloc (bl_refl w) _) _
  simp only [Hv.cells, Sl.v] at hr0 hb0
  refine (HL.out _).mono ?_
  intro e w1 hr
  obtain ⟨rfl, hb⟩ := hr.both
  have hr1 := blk_below hr0 hb (lt_of_heap hr0)
  have hb1 := bl_step hb0 hb
  clear hr hb hr0 hb0
  go_wp2_with fail
  refine (HF.out _).mono ?_
  intro e w2 hr
  obtain ⟨rfl, hb⟩ := hr.both
  have hr2 := blk_below hr1 hb (lt_of_heap hr1)
  have hb2 := bl_step hb1 hb
  have hr3 := hr2
  obtain ⟨gr, hgr⟩ : ∃ g, g = w.heap.size + 1 := ⟨_, rfl⟩
  rw [← hgr] at hr3
  have hz : gr < w2.heap.size := lt_of_heap hr3
  have hz' : w.heap.size + 1 < w2.heap.size := by omega
  have nwr : w.heap.size ≤ gr := by omega
  have hfr := fun i => blk_frozen hr3 i
  have r0 : w2.cell? ⟨gr, 0, none⟩ = some (.int .u64 0) := blk_cell hr3 0
  have r1 : w2.cell? ⟨gr, 1, none⟩ = some (.int .i64 0) := blk_cell hr3 1
  have r2 : w2.cell? ⟨gr, 2, none⟩ = some (.int .i64 0) := blk_cell hr3 2
  have r3 : w2.cell? ⟨gr, 3, none⟩ = some (.bool false) := blk_cell hr3 3
  have r4 : w2.cell? ⟨gr, 4, none⟩ = some (.int .i64 0) := blk_cell hr3 4
  have r5 : w2.cell? ⟨gr, 5, none⟩ = some (.slice none 0 0) := blk_cell hr3 5
  have r6 : w2.cell? ⟨gr, 6, none⟩ = some (.slice none 0 0) := blk_cell hr3 6
  have r7 : w2.cell? ⟨gr, 7, none⟩ = some (.slice none 0 0) := blk_cell hr3 7
  have r8 : w2.cell? ⟨gr, 8, none⟩ = some (.slice none 0 0) := blk_cell hr3 8
  have r9 : w2.cell? ⟨gr, 9, none⟩ = some (.slice none 0 0) := blk_cell hr3 9
  clear hr hb hr1 hb1 hr2 hr3
  rw [hgr] at hfr r0 r1 r2 r3 r4 r5 r6 r7 r8 r9 nwr hz
  clear hgr
  go_wp2
  refine bodyPost_ret (v := .tuple #[.agg #[.int .u64 0, .int .i64 0, .int .i64 0, .bool false, .int .i64 0, .slice none 0 0, .slice none 0 0, .slice none 0 0, .slice none 0 0, .slice none 0 0], .int .i64 E]) (by simp [results, Try.results41, go_sem, hz', r0, r1, r2, r3, r4, r5, r6, r7, r8, r9]) rfl ?_
  refine ⟨hvz, rfl, hvz_is _, ?_⟩
  refine bl_alloc ?_ _
  repeat (with_reducible refine Below.setCell ?_ (by simp) _)
  exact hb2

set_option maxRecDepth 100000 in
set_option maxHeartbeats 4000000 in
theorem write_1 (v : Hv) (h : Hp) (y : Int) (x : Nat) (w : World) (his : v.Is w h) (wf : h.lay.Wf) (hy1 : 0 ≤ y) (hy2 : y < 18446744073709551616)
    (k1 : h.low.length ≤ 1000) (k2 : h.high.length ≤ 1000) (k3 : h.old.length ≤ 1000) (k4 : h.far.length ≤ 1000) (k5 : h.roots.length ≤ 1000) (hok : h.lay.Ok) (hk : fndK h.lay y = 1) :
    Calls Try.prog 41 #[.agg v.cells, .int .u64 y, .int .u64 (x : Int)] w (HeapRet (wrR h y x) (fndE h.lay y) w) := by
  have hf : h.lay.Ok ∧ fndK h.lay y ≠ 0 := ⟨hok, by omega⟩
  have HL := Lib.hid fun W => hlayout_any v W
  have HF := Lib.hid fun W => find_any h.lay y W wf hy1 hy2
  have HO := Lib.hid fun W (hW : v.Is W h) => own_any v h W hW k1 k2 k3 k4 k5
  rw [his.lay] at HL
  have hsc := his.1
  have HIS := Lib.hid his
  have hfe : fndE h.lay y = 0 := by rw [fndE, if_pos hok, if_neg hf.2]
  have hlt := fndI_lt h y hok hf.2
  have hpe : fndP h.lay y = 1 := by rw [fndP, if_pos hok, hk]; rfl
  rw [hk] at hlt
  have hwr : wrR h y x = { h with low := h.low.set (fndI h.lay y).toNat x } := by rw [wrR, if_pos hf, wrH, hk]; rfl
  rw [hwr, hfe]
  rw [fndV, hpe, hfe] at HF
  obtain ⟨I, hI⟩ : ∃ I, I = fndI h.lay y := ⟨_, rfl⟩
  rw [← hI] at HF hlt ⊢
  obtain ⟨hI0, hI1⟩ := hlt
  replace hI1 : I.toNat < h.low.length := hI1
  have HSC := Lib.hid hsc
  have HPT := Lib.hid fun g W => wpart_any g 1 W (by omega) (by omega)
  clear hwr hfe hpe hf hk hI wf his hsc hok
  simp only [Hv.cells, Sl.v, Lay.cells] at HL HF HO ⊢
  go_enter Try.func41, Try.ntmps41
  go_wp2_with fail
  have hx0 := (HeapAt.lit w v 50).alloc (.cells #[.int .u64 0, .int .i64 0, .int .i64 0, .bool false, .int .i64 0, .slice none 0 0, .slice none 0 0, .slice none 0 0, .slice none 0 0, .slice none 0 0] 50)
  have hr0 : ((w.alloc (.cells v.cells 50)).alloc (.cells #[.int .u64 0, .int .i64 0, .int .i64 0, .bool false, .int .i64 0, .slice none 0 0, .slice none 0 0, .slice none 0 0, .slice none 0 0, .slice none 0 0] 50)).heap[w.heap.size + 1]? = some (.cells #[.int .u64 0, .int .i64 0, .int .i64 0, .bool false, .int .i64 0, .slice none 0 0, .slice none 0 0, .slice none 0 0, .slice none 0 0, .slice none 0 0] 50 (0, 0)) := by
    rw [show w.heap.size + 1 = (w.alloc (.cells v.cells 50)).heap.size by simp]
    exact heap_alloc_new _ _
  have hb0 : Below w.heap.size w ((w.alloc (.cells v.cells 50)).alloc (.cells #[.int .u64 0, .int .i64 0, .int .i64 0, .bool false, .int .i64 0, .slice none 0 0, .slice none 0 0, .slice none 0 0, .slice none 0 0, .slice none 0 0] 50)) := bl_alloc (bl_alloc (bl_refl w) _) _
  simp only [Hv.cells, Sl.v] at hx0 hr0 hb0
  refine (HL.out _).mono ?_
  intro e w1 hr
  obtain ⟨rfl, hb⟩ := hr.both
  have hx1 := hx0.below hb
  have hr1 := blk_below hr0 hb (lt_of_heap hr0)
  have hb1 := bl_step hb0 hb
  clear hr hb hx0 hr0 hb0
  go_wp2_with fail
  refine (HF.out _).mono ?_
  intro e w2 hr
  obtain ⟨rfl, hb⟩ := hr.both
  have hx2 := hx1.below hb
  have hr2 := blk_below hr1 hb (lt_of_heap hr1)
  have hb2 := bl_step hb1 hb
  have hx3 := hx2.alloc (.cells #[.int .i64 1, .int .i64 I] 27)
  have hr3 := blk_below hr2 (bl_alloc (bl_refl w2) (.cells #[.int .i64 1, .int .i64 I] 27)) (lt_of_heap hr2)
  have hb3 := bl_alloc hb2 (.cells #[.int .i64 1, .int .i64 I] 27)
  have hp3 := TwoAt.lit w2 (.int .i64 1) (.int .i64 I) 27
  have hz2 : w.heap.size < w2.heap.size := World.block_lt_of_cell? _ _ hx2.1
  obtain ⟨c0, c1, c2, c3, c4, c5, c6, c7, c8, c9⟩ := id hx2
  clear hr hb hx1 hr1 hb1 hx2 hr2 hb2 hx3
  go_wp2_with fail
  clear c0 c1 c2 c3 c4 c5 c6 c7 c8 c9
  have hgr : w.heap.size + 1 < (w2.alloc (.cells #[.int .i64 1, .int .i64 I] 27)).heap.size := lt_of_heap hr3
  refine (HO.out _ (HIS.out.below hb3)).mono ?_
  intro e w5 hr
  obtain ⟨s1, s2, s3, s4, s5, B1, B2, B3, B4, B5, rfl, hB1, hB2, hB3, hB4, hB5, hB6, f1, f2, f3, f4, f5, hb⟩ := hr
  have hr5 := blk_below hr3 hb hgr
  have hb5 := bl_step hb3 hb
  have hp5 := hp3.below hb
  simp only [Hv.cells, Sl.v]
  have f1 := f1.belowB (bl_alloc (bl_refl w5) (.cells #[.int .u64 v.base, .int .i64 v.cap, .int .i64 v.tu, .bool v.cyc, .int .i64 v.scan, .slice s1.a s1.n s1.c, .slice s2.a s2.n s2.c, .slice s3.a s3.n s3.c, .slice s4.a s4.n s4.c, .slice s5.a s5.n s5.c] 81)) (by omega)
  have f2 := f2.belowB (bl_alloc (bl_refl w5) (.cells #[.int .u64 v.base, .int .i64 v.cap, .int .i64 v.tu, .bool v.cyc, .int .i64 v.scan, .slice s1.a s1.n s1.c, .slice s2.a s2.n s2.c, .slice s3.a s3.n s3.c, .slice s4.a s4.n s4.c, .slice s5.a s5.n s5.c] 81)) (by omega)
  have f3 := f3.belowB (bl_alloc (bl_refl w5) (.cells #[.int .u64 v.base, .int .i64 v.cap, .int .i64 v.tu, .bool v.cyc, .int .i64 v.scan, .slice s1.a s1.n s1.c, .slice s2.a s2.n s2.c, .slice s3.a s3.n s3.c, .slice s4.a s4.n s4.c, .slice s5.a s5.n s5.c] 81)) (by omega)
  have f4 := f4.belowB (bl_alloc (bl_refl w5) (.cells #[.int .u64 v.base, .int .i64 v.cap, .int .i64 v.tu, .bool v.cyc, .int .i64 v.scan, .slice s1.a s1.n s1.c, .slice s2.a s2.n s2.c, .slice s3.a s3.n s3.c, .slice s4.a s4.n s4.c, .slice s5.a s5.n s5.c] 81)) (by omega)
  have f5 := f5.belowB (bl_alloc (bl_refl w5) (.cells #[.int .u64 v.base, .int .i64 v.cap, .int .i64 v.tu, .bool v.cyc, .int .i64 v.scan, .slice s1.a s1.n s1.c, .slice s2.a s2.n s2.c, .slice s3.a s3.n s3.c, .slice s4.a s4.n s4.c, .slice s5.a s5.n s5.c] 81)) (by omega)
  have hp6 := hp5.alloc (.cells #[.int .u64 v.base, .int .i64 v.cap, .int .i64 v.tu, .bool v.cyc, .int .i64 v.scan, .slice s1.a s1.n s1.c, .slice s2.a s2.n s2.c, .slice s3.a s3.n s3.c, .slice s4.a s4.n s4.c, .slice s5.a s5.n s5.c] 81)
  have hb6 := bl_alloc hb5 (.cells #[.int .u64 v.base, .int .i64 v.cap, .int .i64 v.tu, .bool v.cyc, .int .i64 v.scan, .slice s1.a s1.n s1.c, .slice s2.a s2.n s2.c, .slice s3.a s3.n s3.c, .slice s4.a s4.n s4.c, .slice s5.a s5.n s5.c] 81)
  have hr6 := blk_below hr5 (bl_alloc (bl_refl w5) (.cells #[.int .u64 v.base, .int .i64 v.cap, .int .i64 v.tu, .bool v.cyc, .int .i64 v.scan, .slice s1.a s1.n s1.c, .slice s2.a s2.n s2.c, .slice s3.a s3.n s3.c, .slice s4.a s4.n s4.c, .slice s5.a s5.n s5.c] 81)) (lt_of_heap hr5)
  have hk6 : (w5.alloc (.cells #[.int .u64 v.base, .int .i64 v.cap, .int .i64 v.tu, .bool v.cyc, .int .i64 v.scan, .slice s1.a s1.n s1.c, .slice s2.a s2.n s2.c, .slice s3.a s3.n s3.c, .slice s4.a s4.n s4.c, .slice s5.a s5.n s5.c] 81)).heap[w5.heap.size]? = some (.cells #[.int .u64 v.base, .int .i64 v.cap, .int .i64 v.tu, .bool v.cyc, .int .i64 v.scan, .slice s1.a s1.n s1.c, .slice s2.a s2.n s2.c, .slice s3.a s3.n s3.c, .slice s4.a s4.n s4.c, .slice s5.a s5.n s5.c] 81 (0, 0)) := heap_alloc_new _ _
  obtain ⟨Bz, hBz⟩ : ∃ B, B = (w2.alloc (.cells #[.int .i64 1, .int .i64 I] 27)).heap.size := ⟨_, rfl⟩
  have hw2 : w.heap.size ≤ w2.heap.size := by omega
  rw [← hBz] at f1 hB1 hgr
  clear hr5 hb5 hp5 hr3 hb3 hp3 hb hBz hz2 HL HF HO HIS
  go_wp2_with fail
  obtain ⟨W6, hW6⟩ : ∃ W, W = w5.alloc (.cells #[.int .u64 v.base, .int .i64 v.cap, .int .i64 v.tu, .bool v.cyc, .int .i64 v.scan, .slice s1.a s1.n s1.c, .slice s2.a s2.n s2.c, .slice s3.a s3.n s3.c, .slice s4.a s4.n s4.c, .slice s5.a s5.n s5.c] 81) := ⟨_, rfl⟩
  rw [← hW6] at f1 f2 f3 f4 f5 hp6 hb6 hr6 hk6 ⊢
  have hgs : W6.heap.size = w5.heap.size + 1 := by rw [hW6]; simp
  obtain ⟨gk, hgk⟩ : ∃ g, g = w5.heap.size := ⟨_, rfl⟩
  rw [← hgk] at hk6 hB6 ⊢
  have hgk1 : gk < W6.heap.size := by omega
  clear hW6 hgs hgk
  obtain ⟨gp, hgp⟩ : ∃ g, g = w2.heap.size := ⟨_, rfl⟩
  rw [← hgp] at hp6 hw2 ⊢
  clear hgp
  obtain ⟨gr, hgrE⟩ : ∃ g, g = w.heap.size + 1 := ⟨_, rfl⟩
  rw [← hgrE] at hr6 hgr ⊢
  have nwr : w.heap.size ≤ gr := by omega
  clear hgrE
  obtain ⟨b, hsa, hbB, hbB2, hfz⟩ := f1.2 (by omega)
  obtain ⟨hq1, hq2, hq3, hq4⟩ := f1.1
  obtain ⟨b2, off, hsa2, hblt, hcell⟩ := hq4.us_at hI1
  rw [hsa] at hsa2
  injection hsa2 with hsa2
  injection hsa2 with hsa3 hsa4
  subst hsa3; subst hsa4
  rw [Nat.zero_add] at hcell
  have hfI := hfz I.toNat hI1
  have hIn : I < (s1.n : Int) := by omega
  have hSn : (s1.n : Int) ≤ 9223372036854775807 := by omega
  have hpart : W6.cell? ⟨gk, 5, none⟩ = some (.slice (some ⟨b, 0, none⟩) s1.n s1.c) := by rw [← hsa]; exact blk_cell hk6 5
  obtain ⟨p0, p1⟩ := id hp6
  have z0 : gp < W6.heap.size := World.block_lt_of_cell? _ _ p0
  have hbk : b < gk := by omega
  clear hq1 hq2 hq3 hq4 hfz
  have HSA := Lib.hid hsa
  clear hsa
  refine wp_region_later_tail 10 (by kernel_rfl) (by kernel_rfl) ?_
  simp only [List.take_succ_cons, List.take_zero, List.drop_succ_cons, List.drop_zero]
  repeat (go_big_quiet_step ((with_reducible exact later_retB (HPT.out _ _))))
  refine wpQuiet_nil ?_
  intro _ hw'
  obtain ⟨x6, hw''⟩ := hw'
  subst hw''
  have hk7 := blk_below hk6 x6.below hgk1
  have hr7 := blk_below hr6 x6.below (lt_of_heap hr6)
  have hb7 := bl_step hb6 x6.below
  have f1 := f1.belowB x6.below (by omega)
  have f2 := f2.belowB x6.below (by omega)
  have f3 := f3.belowB x6.below (by omega)
  have f4 := f4.belowB x6.below (by omega)
  have f5 := f5.belowB x6.below (by omega)
  have hcell7 := cells_keep2 hcell x6.below
  have hf7 := (below_frozen x6.below b I.toNat hblt).trans hfI
  revert hk7 hr7 hb7 f1 f2 f3 f4 f5 hcell7 hf7
  obtain ⟨W7, hW7⟩ : ∃ W, W = x6.w := ⟨_, rfl⟩
  rw [← hW7]
  intro hk7 hr7 hb7 f1 f2 f3 f4 f5 hcell7 hf7
  clear hW7 x6 hcell hfI hpart p0 p1 z0 hk6 hr6 hb6 hp6
  have r0 : W7.cell? ⟨gr, 0, none⟩ = some (.int .u64 0) := blk_cell hr7 0
  have c0 : W7.cell? ⟨gk, 0, none⟩ = some (.int .u64 v.base) := blk_cell hk7 0
  have r1 : W7.cell? ⟨gr, 1, none⟩ = some (.int .i64 0) := blk_cell hr7 1
  have c1 : W7.cell? ⟨gk, 1, none⟩ = some (.int .i64 v.cap) := blk_cell hk7 1
  have r2 : W7.cell? ⟨gr, 2, none⟩ = some (.int .i64 0) := blk_cell hr7 2
  have c2 : W7.cell? ⟨gk, 2, none⟩ = some (.int .i64 v.tu) := blk_cell hk7 2
  have r3 : W7.cell? ⟨gr, 3, none⟩ = some (.bool false) := blk_cell hr7 3
  have c3 : W7.cell? ⟨gk, 3, none⟩ = some (.bool v.cyc) := blk_cell hk7 3
  have r4 : W7.cell? ⟨gr, 4, none⟩ = some (.int .i64 0) := blk_cell hr7 4
  have c4 : W7.cell? ⟨gk, 4, none⟩ = some (.int .i64 v.scan) := blk_cell hk7 4
  have r5 : W7.cell? ⟨gr, 5, none⟩ = some (.slice none 0 0) := blk_cell hr7 5
  have c5 : W7.cell? ⟨gk, 5, none⟩ = some (.slice s1.a s1.n s1.c) := blk_cell hk7 5
  have r6 : W7.cell? ⟨gr, 6, none⟩ = some (.slice none 0 0) := blk_cell hr7 6
  have c6 : W7.cell? ⟨gk, 6, none⟩ = some (.slice s2.a s2.n s2.c) := blk_cell hk7 6
  have r7 : W7.cell? ⟨gr, 7, none⟩ = some (.slice none 0 0) := blk_cell hr7 7
  have c7 : W7.cell? ⟨gk, 7, none⟩ = some (.slice s3.a s3.n s3.c) := blk_cell hk7 7
  have r8 : W7.cell? ⟨gr, 8, none⟩ = some (.slice none 0 0) := blk_cell hr7 8
  have c8 : W7.cell? ⟨gk, 8, none⟩ = some (.slice s4.a s4.n s4.c) := blk_cell hk7 8
  have r9 : W7.cell? ⟨gr, 9, none⟩ = some (.slice none 0 0) := blk_cell hr7 9
  have c9 : W7.cell? ⟨gk, 9, none⟩ = some (.slice s5.a s5.n s5.c) := blk_cell hk7 9
  have fr := fun i => blk_frozen hr7 i
  have n1 : b ≠ gk := by omega
  have n2 : b ≠ gr := by omega
  have n3 : gk ≠ b := by omega
  have n4 : gr ≠ b := by omega
  have n5 : gk ≠ gr := by omega
  have n6 : gr ≠ gk := by omega
  clear hk7 hr7
  go_wp2
  refine bodyPost_ret (v := .tuple #[.agg #[.int .u64 v.base, .int .i64 v.cap, .int .i64 v.tu, .bool v.cyc, .int .i64 v.scan, .slice s1.a s1.n s1.c, .slice s2.a s2.n s2.c, .slice s3.a s3.n s3.c, .slice s4.a s4.n s4.c, .slice s5.a s5.n s5.c], .int .i64 0]) (by simp [results, Try.results41, go_sem, n1, n2, n3, n4, n5, n6, r0, r1, r2, r3, r4, r5, r6, r7, r8, r9]) rfl ?_
  refine ⟨⟨v.base, v.cap, v.tu, v.cyc, v.scan, s1, s2, s3, s4, s5⟩, rfl, ⟨HSC.out, ?_, ?_, ?_, ?_, ?_⟩, ?_⟩
  · suffices hh : Fresh _ Bz B1 s1 (h.low.set I.toNat x) from hh.1
    repeat (with_reducible refine Fresh.far (g := gr) ?_ (.inl (by omega)))
    exact (f1.put HSA.out hI1)
  · suffices hh : Fresh _ B1 B2 s2 h.high from hh.1
    repeat (with_reducible refine Fresh.far (g := gr) ?_ (.inl (by omega)))
    exact (f2.far (g := b) (.inl (by omega)))
  · suffices hh : Fresh _ B2 B3 s3 h.old from hh.1
    repeat (with_reducible refine Fresh.far (g := gr) ?_ (.inl (by omega)))
    exact (f3.far (g := b) (.inl (by omega)))
  · suffices hh : Fresh _ B3 B4 s4 h.far from hh.1
    repeat (with_reducible refine Fresh.far (g := gr) ?_ (.inl (by omega)))
    exact (f4.far (g := b) (.inl (by omega)))
  · suffices hh : Fresh _ B4 B5 s5 h.roots from hh.1
    repeat (with_reducible refine Fresh.far (g := gr) ?_ (.inl (by omega)))
    exact (f5.far (g := b) (.inl (by omega)))
  · repeat (with_reducible refine Below.setCell (p := ⟨gr, _, none⟩) ?_ nwr _)
    exact hb7.setCell (p := ⟨b, I.toNat, none⟩) (by show w.heap.size ≤ b; omega) _


set_option maxRecDepth 100000 in
set_option maxHeartbeats 4000000 in
theorem write_2 (v : Hv) (h : Hp) (y : Int) (x : Nat) (w : World) (his : v.Is w h) (wf : h.lay.Wf) (hy1 : 0 ≤ y) (hy2 : y < 18446744073709551616)
    (k1 : h.low.length ≤ 1000) (k2 : h.high.length ≤ 1000) (k3 : h.old.length ≤ 1000) (k4 : h.far.length ≤ 1000) (k5 : h.roots.length ≤ 1000) (hok : h.lay.Ok) (hk : fndK h.lay y = 2) :
    Calls Try.prog 41 #[.agg v.cells, .int .u64 y, .int .u64 (x : Int)] w (HeapRet (wrR h y x) (fndE h.lay y) w) := by
  have hf : h.lay.Ok ∧ fndK h.lay y ≠ 0 := ⟨hok, by omega⟩
  have HL := Lib.hid fun W => hlayout_any v W
  have HF := Lib.hid fun W => find_any h.lay y W wf hy1 hy2
  have HO := Lib.hid fun W (hW : v.Is W h) => own_any v h W hW k1 k2 k3 k4 k5
  rw [his.lay] at HL
  have hsc := his.1
  have HIS := Lib.hid his
  have hfe : fndE h.lay y = 0 := by rw [fndE, if_pos hok, if_neg hf.2]
  have hlt := fndI_lt h y hok hf.2
  have hpe : fndP h.lay y = 2 := by rw [fndP, if_pos hok, hk]; rfl
  rw [hk] at hlt
  have hwr : wrR h y x = { h with high := h.high.set (fndI h.lay y).toNat x } := by rw [wrR, if_pos hf, wrH, hk]; rfl
  rw [hwr, hfe]
  rw [fndV, hpe, hfe] at HF
  obtain ⟨I, hI⟩ : ∃ I, I = fndI h.lay y := ⟨_, rfl⟩
  rw [← hI] at HF hlt ⊢
  obtain ⟨hI0, hI1⟩ := hlt
  replace hI1 : I.toNat < h.high.length := hI1
  have HSC := Lib.hid hsc
  have HPT := Lib.hid fun g W => wpart_any g 2 W (by omega) (by omega)
  clear hwr hfe hpe hf hk hI wf his hsc hok
  simp only [Hv.cells, Sl.v, Lay.cells] at HL HF HO ⊢
  go_enter Try.func41, Try.ntmps41
  go_wp2_with fail
  have hx0 := (HeapAt.lit w v 50).alloc (.cells #[.int .u64 0, .int .i64 0, .int .i64 0, .bool false, .int .i64 0, .slice none 0 0, .slice none 0 0, .slice none 0 0, .slice none 0 0, .slice none 0 0] 50)
  have hr0 : ((w.alloc (.cells v.cells 50)).alloc (.cells #[.int .u64 0, .int .i64 0, .int .i64 0, .bool false, .int .i64 0, .slice none 0 0, .slice none 0 0, .slice none 0 0, .slice none 0 0, .slice none 0 0] 50)).heap[w.heap.size + 1]? = some (.cells #[.int .u64 0, .int .i64 0, .int .i64 0, .bool false, .int .i64 0, .slice none 0 0, .slice none 0 0, .slice none 0 0, .slice none 0 0, .slice none 0 0] 50 (0, 0)) := by
    rw [show w.heap.size + 1 = (w.alloc (.cells v.cells 50)).heap.size by simp]
    exact heap_alloc_new _ _
  have hb0 : Below w.heap.size w ((w.alloc (.cells v.cells 50)).alloc (.cells #[.int .u64 0, .int .i64 0, .int .i64 0, .bool false, .int .i64 0, .slice none 0 0, .slice none 0 0, .slice none 0 0, .slice none 0 0, .slice none 0 0] 50)) := bl_alloc (bl_alloc (bl_refl w) _) _
  simp only [Hv.cells, Sl.v] at hx0 hr0 hb0
  refine (HL.out _).mono ?_
  intro e w1 hr
  obtain ⟨rfl, hb⟩ := hr.both
  have hx1 := hx0.below hb
  have hr1 := blk_below hr0 hb (lt_of_heap hr0)
  have hb1 := bl_step hb0 hb
  clear hr hb hx0 hr0 hb0
  go_wp2_with fail
  refine (HF.out _).mono ?_
  intro e w2 hr
  obtain ⟨rfl, hb⟩ := hr.both
  have hx2 := hx1.below hb
  have hr2 := blk_below hr1 hb (lt_of_heap hr1)
  have hb2 := bl_step hb1 hb
  have hx3 := hx2.alloc (.cells #[.int .i64 2, .int .i64 I] 27)
  have hr3 := blk_below hr2 (bl_alloc (bl_refl w2) (.cells #[.int .i64 2, .int .i64 I] 27)) (lt_of_heap hr2)
  have hb3 := bl_alloc hb2 (.cells #[.int .i64 2, .int .i64 I] 27)
  have hp3 := TwoAt.lit w2 (.int .i64 2) (.int .i64 I) 27
  have hz2 : w.heap.size < w2.heap.size := World.block_lt_of_cell? _ _ hx2.1
  obtain ⟨c0, c1, c2, c3, c4, c5, c6, c7, c8, c9⟩ := id hx2
  clear hr hb hx1 hr1 hb1 hx2 hr2 hb2 hx3
  go_wp2_with fail
  clear c0 c1 c2 c3 c4 c5 c6 c7 c8 c9
  have hgr : w.heap.size + 1 < (w2.alloc (.cells #[.int .i64 2, .int .i64 I] 27)).heap.size := lt_of_heap hr3
  refine (HO.out _ (HIS.out.below hb3)).mono ?_
  intro e w5 hr
  obtain ⟨s1, s2, s3, s4, s5, B1, B2, B3, B4, B5, rfl, hB1, hB2, hB3, hB4, hB5, hB6, f1, f2, f3, f4, f5, hb⟩ := hr
  have hr5 := blk_below hr3 hb hgr
  have hb5 := bl_step hb3 hb
  have hp5 := hp3.below hb
  simp only [Hv.cells, Sl.v]
  have f1 := f1.belowB (bl_alloc (bl_refl w5) (.cells #[.int .u64 v.base, .int .i64 v.cap, .int .i64 v.tu, .bool v.cyc, .int .i64 v.scan, .slice s1.a s1.n s1.c, .slice s2.a s2.n s2.c, .slice s3.a s3.n s3.c, .slice s4.a s4.n s4.c, .slice s5.a s5.n s5.c] 81)) (by omega)
  have f2 := f2.belowB (bl_alloc (bl_refl w5) (.cells #[.int .u64 v.base, .int .i64 v.cap, .int .i64 v.tu, .bool v.cyc, .int .i64 v.scan, .slice s1.a s1.n s1.c, .slice s2.a s2.n s2.c, .slice s3.a s3.n s3.c, .slice s4.a s4.n s4.c, .slice s5.a s5.n s5.c] 81)) (by omega)
  have f3 := f3.belowB (bl_alloc (bl_refl w5) (.cells #[.int .u64 v.base, .int .i64 v.cap, .int .i64 v.tu, .bool v.cyc, .int .i64 v.scan, .slice s1.a s1.n s1.c, .slice s2.a s2.n s2.c, .slice s3.a s3.n s3.c, .slice s4.a s4.n s4.c, .slice s5.a s5.n s5.c] 81)) (by omega)
  have f4 := f4.belowB (bl_alloc (bl_refl w5) (.cells #[.int .u64 v.base, .int .i64 v.cap, .int .i64 v.tu, .bool v.cyc, .int .i64 v.scan, .slice s1.a s1.n s1.c, .slice s2.a s2.n s2.c, .slice s3.a s3.n s3.c, .slice s4.a s4.n s4.c, .slice s5.a s5.n s5.c] 81)) (by omega)
  have f5 := f5.belowB (bl_alloc (bl_refl w5) (.cells #[.int .u64 v.base, .int .i64 v.cap, .int .i64 v.tu, .bool v.cyc, .int .i64 v.scan, .slice s1.a s1.n s1.c, .slice s2.a s2.n s2.c, .slice s3.a s3.n s3.c, .slice s4.a s4.n s4.c, .slice s5.a s5.n s5.c] 81)) (by omega)
  have hp6 := hp5.alloc (.cells #[.int .u64 v.base, .int .i64 v.cap, .int .i64 v.tu, .bool v.cyc, .int .i64 v.scan, .slice s1.a s1.n s1.c, .slice s2.a s2.n s2.c, .slice s3.a s3.n s3.c, .slice s4.a s4.n s4.c, .slice s5.a s5.n s5.c] 81)
  have hb6 := bl_alloc hb5 (.cells #[.int .u64 v.base, .int .i64 v.cap, .int .i64 v.tu, .bool v.cyc, .int .i64 v.scan, .slice s1.a s1.n s1.c, .slice s2.a s2.n s2.c, .slice s3.a s3.n s3.c, .slice s4.a s4.n s4.c, .slice s5.a s5.n s5.c] 81)
  have hr6 := blk_below hr5 (bl_alloc (bl_refl w5) (.cells #[.int .u64 v.base, .int .i64 v.cap, .int .i64 v.tu, .bool v.cyc, .int .i64 v.scan, .slice s1.a s1.n s1.c, .slice s2.a s2.n s2.c, .slice s3.a s3.n s3.c, .slice s4.a s4.n s4.c, .slice s5.a s5.n s5.c] 81)) (lt_of_heap hr5)
  have hk6 : (w5.alloc (.cells #[.int .u64 v.base, .int .i64 v.cap, .int .i64 v.tu, .bool v.cyc, .int .i64 v.scan, .slice s1.a s1.n s1.c, .slice s2.a s2.n s2.c, .slice s3.a s3.n s3.c, .slice s4.a s4.n s4.c, .slice s5.a s5.n s5.c] 81)).heap[w5.heap.size]? = some (.cells #[.int .u64 v.base, .int .i64 v.cap, .int .i64 v.tu, .bool v.cyc, .int .i64 v.scan, .slice s1.a s1.n s1.c, .slice s2.a s2.n s2.c, .slice s3.a s3.n s3.c, .slice s4.a s4.n s4.c, .slice s5.a s5.n s5.c] 81 (0, 0)) := heap_alloc_new _ _
  obtain ⟨Bz, hBz⟩ : ∃ B, B = (w2.alloc (.cells #[.int .i64 2, .int .i64 I] 27)).heap.size := ⟨_, rfl⟩
  have hw2 : w.heap.size ≤ w2.heap.size := by omega
  rw [← hBz] at f1 hB1 hgr
  clear hr5 hb5 hp5 hr3 hb3 hp3 hb hBz hz2 HL HF HO HIS
  go_wp2_with fail
  obtain ⟨W6, hW6⟩ : ∃ W, W = w5.alloc (.cells #[.int .u64 v.base, .int .i64 v.cap, .int .i64 v.tu, .bool v.cyc, .int .i64 v.scan, .slice s1.a s1.n s1.c, .slice s2.a s2.n s2.c, .slice s3.a s3.n s3.c, .slice s4.a s4.n s4.c, .slice s5.a s5.n s5.c] 81) := ⟨_, rfl⟩
  rw [← hW6] at f1 f2 f3 f4 f5 hp6 hb6 hr6 hk6 ⊢
  have hgs : W6.heap.size = w5.heap.size + 1 := by rw [hW6]; simp
  obtain ⟨gk, hgk⟩ : ∃ g, g = w5.heap.size := ⟨_, rfl⟩
  rw [← hgk] at hk6 hB6 ⊢
  have hgk1 : gk < W6.heap.size := by omega
  clear hW6 hgs hgk
  obtain ⟨gp, hgp⟩ : ∃ g, g = w2.heap.size := ⟨_, rfl⟩
  rw [← hgp] at hp6 hw2 ⊢
  clear hgp
  obtain ⟨gr, hgrE⟩ : ∃ g, g = w.heap.size + 1 := ⟨_, rfl⟩
  rw [← hgrE] at hr6 hgr ⊢
  have nwr : w.heap.size ≤ gr := by omega
  clear hgrE
  obtain ⟨b, hsa, hbB, hbB2, hfz⟩ := f2.2 (by omega)
  obtain ⟨hq1, hq2, hq3, hq4⟩ := f2.1
  obtain ⟨b2, off, hsa2, hblt, hcell⟩ := hq4.us_at hI1
  rw [hsa] at hsa2
  injection hsa2 with hsa2
  injection hsa2 with hsa3 hsa4
  subst hsa3; subst hsa4
  rw [Nat.zero_add] at hcell
  have hfI := hfz I.toNat hI1
  have hIn : I < (s2.n : Int) := by omega
  have hSn : (s2.n : Int) ≤ 9223372036854775807 := by omega
  have hpart : W6.cell? ⟨gk, 6, none⟩ = some (.slice (some ⟨b, 0, none⟩) s2.n s2.c) := by rw [← hsa]; exact blk_cell hk6 6
  obtain ⟨p0, p1⟩ := id hp6
  have z0 : gp < W6.heap.size := World.block_lt_of_cell? _ _ p0
  have hbk : b < gk := by omega
  clear hq1 hq2 hq3 hq4 hfz
  have HSA := Lib.hid hsa
  clear hsa
  refine wp_region_later_tail 10 (by kernel_rfl) (by kernel_rfl) ?_
  simp only [List.take_succ_cons, List.take_zero, List.drop_succ_cons, List.drop_zero]
  repeat (go_big_quiet_step ((with_reducible exact later_retB (HPT.out _ _))))
  refine wpQuiet_nil ?_
  intro _ hw'
  obtain ⟨x6, hw''⟩ := hw'
  subst hw''
  have hk7 := blk_below hk6 x6.below hgk1
  have hr7 := blk_below hr6 x6.below (lt_of_heap hr6)
  have hb7 := bl_step hb6 x6.below
  have f1 := f1.belowB x6.below (by omega)
  have f2 := f2.belowB x6.below (by omega)
  have f3 := f3.belowB x6.below (by omega)
  have f4 := f4.belowB x6.below (by omega)
  have f5 := f5.belowB x6.below (by omega)
  have hcell7 := cells_keep2 hcell x6.below
  have hf7 := (below_frozen x6.below b I.toNat hblt).trans hfI
  revert hk7 hr7 hb7 f1 f2 f3 f4 f5 hcell7 hf7
  obtain ⟨W7, hW7⟩ : ∃ W, W = x6.w := ⟨_, rfl⟩
  rw [← hW7]
  intro hk7 hr7 hb7 f1 f2 f3 f4 f5 hcell7 hf7
  clear hW7 x6 hcell hfI hpart p0 p1 z0 hk6 hr6 hb6 hp6
  have r0 : W7.cell? ⟨gr, 0, none⟩ = some (.int .u64 0) := blk_cell hr7 0
  have c0 : W7.cell? ⟨gk, 0, none⟩ = some (.int .u64 v.base) := blk_cell hk7 0
  have r1 : W7.cell? ⟨gr, 1, none⟩ = some (.int .i64 0) := blk_cell hr7 1
  have c1 : W7.cell? ⟨gk, 1, none⟩ = some (.int .i64 v.cap) := blk_cell hk7 1
  have r2 : W7.cell? ⟨gr, 2, none⟩ = some (.int .i64 0) := blk_cell hr7 2
  have c2 : W7.cell? ⟨gk, 2, none⟩ = some (.int .i64 v.tu) := blk_cell hk7 2
  have r3 : W7.cell? ⟨gr, 3, none⟩ = some (.bool false) := blk_cell hr7 3
  have c3 : W7.cell? ⟨gk, 3, none⟩ = some (.bool v.cyc) := blk_cell hk7 3
  have r4 : W7.cell? ⟨gr, 4, none⟩ = some (.int .i64 0) := blk_cell hr7 4
  have c4 : W7.cell? ⟨gk, 4, none⟩ = some (.int .i64 v.scan) := blk_cell hk7 4
  have r5 : W7.cell? ⟨gr, 5, none⟩ = some (.slice none 0 0) := blk_cell hr7 5
  have c5 : W7.cell? ⟨gk, 5, none⟩ = some (.slice s1.a s1.n s1.c) := blk_cell hk7 5
  have r6 : W7.cell? ⟨gr, 6, none⟩ = some (.slice none 0 0) := blk_cell hr7 6
  have c6 : W7.cell? ⟨gk, 6, none⟩ = some (.slice s2.a s2.n s2.c) := blk_cell hk7 6
  have r7 : W7.cell? ⟨gr, 7, none⟩ = some (.slice none 0 0) := blk_cell hr7 7
  have c7 : W7.cell? ⟨gk, 7, none⟩ = some (.slice s3.a s3.n s3.c) := blk_cell hk7 7
  have r8 : W7.cell? ⟨gr, 8, none⟩ = some (.slice none 0 0) := blk_cell hr7 8
  have c8 : W7.cell? ⟨gk, 8, none⟩ = some (.slice s4.a s4.n s4.c) := blk_cell hk7 8
  have r9 : W7.cell? ⟨gr, 9, none⟩ = some (.slice none 0 0) := blk_cell hr7 9
  have c9 : W7.cell? ⟨gk, 9, none⟩ = some (.slice s5.a s5.n s5.c) := blk_cell hk7 9
  have fr := fun i => blk_frozen hr7 i
  have n1 : b ≠ gk := by omega
  have n2 : b ≠ gr := by omega
  have n3 : gk ≠ b := by omega
  have n4 : gr ≠ b := by omega
  have n5 : gk ≠ gr := by omega
  have n6 : gr ≠ gk := by omega
  clear hk7 hr7
  go_wp2
  refine bodyPost_ret (v := .tuple #[.agg #[.int .u64 v.base, .int .i64 v.cap, .int .i64 v.tu, .bool v.cyc, .int .i64 v.scan, .slice s1.a s1.n s1.c, .slice s2.a s2.n s2.c, .slice s3.a s3.n s3.c, .slice s4.a s4.n s4.c, .slice s5.a s5.n s5.c], .int .i64 0]) (by simp [results, Try.results41, go_sem, n1, n2, n3, n4, n5, n6, r0, r1, r2, r3, r4, r5, r6, r7, r8, r9]) rfl ?_
  refine ⟨⟨v.base, v.cap, v.tu, v.cyc, v.scan, s1, s2, s3, s4, s5⟩, rfl, ⟨HSC.out, ?_, ?_, ?_, ?_, ?_⟩, ?_⟩
  · suffices hh : Fresh _ Bz B1 s1 h.low from hh.1
    repeat (with_reducible refine Fresh.far (g := gr) ?_ (.inl (by omega)))
    exact (f1.far (g := b) (.inr (by omega)))
  · suffices hh : Fresh _ B1 B2 s2 (h.high.set I.toNat x) from hh.1
    repeat (with_reducible refine Fresh.far (g := gr) ?_ (.inl (by omega)))
    exact (f2.put HSA.out hI1)
  · suffices hh : Fresh _ B2 B3 s3 h.old from hh.1
    repeat (with_reducible refine Fresh.far (g := gr) ?_ (.inl (by omega)))
    exact (f3.far (g := b) (.inl (by omega)))
  · suffices hh : Fresh _ B3 B4 s4 h.far from hh.1
    repeat (with_reducible refine Fresh.far (g := gr) ?_ (.inl (by omega)))
    exact (f4.far (g := b) (.inl (by omega)))
  · suffices hh : Fresh _ B4 B5 s5 h.roots from hh.1
    repeat (with_reducible refine Fresh.far (g := gr) ?_ (.inl (by omega)))
    exact (f5.far (g := b) (.inl (by omega)))
  · repeat (with_reducible refine Below.setCell (p := ⟨gr, _, none⟩) ?_ nwr _)
    exact hb7.setCell (p := ⟨b, I.toNat, none⟩) (by show w.heap.size ≤ b; omega) _


set_option maxRecDepth 100000 in
set_option maxHeartbeats 4000000 in
theorem write_3 (v : Hv) (h : Hp) (y : Int) (x : Nat) (w : World) (his : v.Is w h) (wf : h.lay.Wf) (hy1 : 0 ≤ y) (hy2 : y < 18446744073709551616)
    (k1 : h.low.length ≤ 1000) (k2 : h.high.length ≤ 1000) (k3 : h.old.length ≤ 1000) (k4 : h.far.length ≤ 1000) (k5 : h.roots.length ≤ 1000) (hok : h.lay.Ok) (hk : fndK h.lay y = 3) :
    Calls Try.prog 41 #[.agg v.cells, .int .u64 y, .int .u64 (x : Int)] w (HeapRet (wrR h y x) (fndE h.lay y) w) := by
  have hf : h.lay.Ok ∧ fndK h.lay y ≠ 0 := ⟨hok, by omega⟩
  have HL := Lib.hid fun W => hlayout_any v W
  have HF := Lib.hid fun W => find_any h.lay y W wf hy1 hy2
  have HO := Lib.hid fun W (hW : v.Is W h) => own_any v h W hW k1 k2 k3 k4 k5
  rw [his.lay] at HL
  have hsc := his.1
  have HIS := Lib.hid his
  have hfe : fndE h.lay y = 0 := by rw [fndE, if_pos hok, if_neg hf.2]
  have hlt := fndI_lt h y hok hf.2
  have hpe : fndP h.lay y = 3 := by rw [fndP, if_pos hok, hk]; rfl
  rw [hk] at hlt
  have hwr : wrR h y x = { h with old := h.old.set (fndI h.lay y).toNat x } := by rw [wrR, if_pos hf, wrH, hk]; rfl
  rw [hwr, hfe]
  rw [fndV, hpe, hfe] at HF
  obtain ⟨I, hI⟩ : ∃ I, I = fndI h.lay y := ⟨_, rfl⟩
  rw [← hI] at HF hlt ⊢
  obtain ⟨hI0, hI1⟩ := hlt
  replace hI1 : I.toNat < h.old.length := hI1
  have HSC := Lib.hid hsc
  have HPT := Lib.hid fun g W => wpart_any g 3 W (by omega) (by omega)
  clear hwr hfe hpe hf hk hI wf his hsc hok
  simp only [Hv.cells, Sl.v, Lay.cells] at HL HF HO ⊢
  go_enter Try.func41, Try.ntmps41
  go_wp2_with fail
  have hx0 := (HeapAt.lit w v 50).alloc (.cells #[.int .u64 0, .int .i64 0, .int .i64 0, .bool false, .int .i64 0, .slice none 0 0, .slice none 0 0, .slice none 0 0, .slice none 0 0, .slice none 0 0] 50)
  have hr0 : ((w.alloc (.cells v.cells 50)).alloc (.cells #[.int .u64 0, .int .i64 0, .int .i64 0, .bool false, .int .i64 0, .slice none 0 0, .slice none 0 0, .slice none 0 0, .slice none 0 0, .slice none 0 0] 50)).heap[w.heap.size + 1]? = some (.cells #[.int .u64 0, .int .i64 0, .int .i64 0, .bool false, .int .i64 0, .slice none 0 0, .slice none 0 0, .slice none 0 0, .slice none 0 0, .slice none 0 0] 50 (0, 0)) := by
    rw [show w.heap.size + 1 = (w.alloc (.cells v.cells 50)).heap.size by simp]
    exact heap_alloc_new _ _
  have hb0 : Below w.heap.size w ((w.alloc (.cells v.cells 50)).alloc (.cells #[.int .u64 0, .int .i64 0, .int .i64 0, .bool false, .int .i64 0, .slice none 0 0, .slice none 0 0, .slice none 0 0, .slice none 0 0, .slice none 0 0] 50)) := bl_alloc (bl_alloc (bl_refl w) _) _
  simp only [Hv.cells, Sl.v] at hx0 hr0 hb0
  refine (HL.out _).mono ?_
  intro e w1 hr
  obtain ⟨rfl, hb⟩ := hr.both
  have hx1 := hx0.below hb
  have hr1 := blk_below hr0 hb (lt_of_heap hr0)
  have hb1 := bl_step hb0 hb
  clear hr hb hx0 hr0 hb0
  go_wp2_with fail
  refine (HF.out _).mono ?_
  intro e w2 hr
  obtain ⟨rfl, hb⟩ := hr.both
  have hx2 := hx1.below hb
  have hr2 := blk_below hr1 hb (lt_of_heap hr1)
  have hb2 := bl_step hb1 hb
  have hx3 := hx2.alloc (.cells #[.int .i64 3, .int .i64 I] 27)
  have hr3 := blk_below hr2 (bl_alloc (bl_refl w2) (.cells #[.int .i64 3, .int .i64 I] 27)) (lt_of_heap hr2)
  have hb3 := bl_alloc hb2 (.cells #[.int .i64 3, .int .i64 I] 27)
  have hp3 := TwoAt.lit w2 (.int .i64 3) (.int .i64 I) 27
  have hz2 : w.heap.size < w2.heap.size := World.block_lt_of_cell? _ _ hx2.1
  obtain ⟨c0, c1, c2, c3, c4, c5, c6, c7, c8, c9⟩ := id hx2
  clear hr hb hx1 hr1 hb1 hx2 hr2 hb2 hx3
  go_wp2_with fail
  clear c0 c1 c2 c3 c4 c5 c6 c7 c8 c9
  have hgr : w.heap.size + 1 < (w2.alloc (.cells #[.int .i64 3, .int .i64 I] 27)).heap.size := lt_of_heap hr3
  refine (HO.out _ (HIS.out.below hb3)).mono ?_
  intro e w5 hr
  obtain ⟨s1, s2, s3, s4, s5, B1, B2, B3, B4, B5, rfl, hB1, hB2, hB3, hB4, hB5, hB6, f1, f2, f3, f4, f5, hb⟩ := hr
  have hr5 := blk_below hr3 hb hgr
  have hb5 := bl_step hb3 hb
  have hp5 := hp3.below hb
  simp only [Hv.cells, Sl.v]
  have f1 := f1.belowB (bl_alloc (bl_refl w5) (.cells #[.int .u64 v.base, .int .i64 v.cap, .int .i64 v.tu, .bool v.cyc, .int .i64 v.scan, .slice s1.a s1.n s1.c, .slice s2.a s2.n s2.c, .slice s3.a s3.n s3.c, .slice s4.a s4.n s4.c, .slice s5.a s5.n s5.c] 81)) (by omega)
  have f2 := f2.belowB (bl_alloc (bl_refl w5) (.cells #[.int .u64 v.base, .int .i64 v.cap, .int .i64 v.tu, .bool v.cyc, .int .i64 v.scan, .slice s1.a s1.n s1.c, .slice s2.a s2.n s2.c, .slice s3.a s3.n s3.c, .slice s4.a s4.n s4.c, .slice s5.a s5.n s5.c] 81)) (by omega)
  have f3 := f3.belowB (bl_alloc (bl_refl w5) (.cells #[.int .u64 v.base, .int .i64 v.cap, .int .i64 v.tu, .bool v.cyc, .int .i64 v.scan, .slice s1.a s1.n s1.c, .slice s2.a s2.n s2.c, .slice s3.a s3.n s3.c, .slice s4.a s4.n s4.c, .slice s5.a s5.n s5.c] 81)) (by omega)
  have f4 := f4.belowB (bl_alloc (bl_refl w5) (.cells #[.int .u64 v.base, .int .i64 v.cap, .int .i64 v.tu, .bool v.cyc, .int .i64 v.scan, .slice s1.a s1.n s1.c, .slice s2.a s2.n s2.c, .slice s3.a s3.n s3.c, .slice s4.a s4.n s4.c, .slice s5.a s5.n s5.c] 81)) (by omega)
  have f5 := f5.belowB (bl_alloc (bl_refl w5) (.cells #[.int .u64 v.base, .int .i64 v.cap, .int .i64 v.tu, .bool v.cyc, .int .i64 v.scan, .slice s1.a s1.n s1.c, .slice s2.a s2.n s2.c, .slice s3.a s3.n s3.c, .slice s4.a s4.n s4.c, .slice s5.a s5.n s5.c] 81)) (by omega)
  have hp6 := hp5.alloc (.cells #[.int .u64 v.base, .int .i64 v.cap, .int .i64 v.tu, .bool v.cyc, .int .i64 v.scan, .slice s1.a s1.n s1.c, .slice s2.a s2.n s2.c, .slice s3.a s3.n s3.c, .slice s4.a s4.n s4.c, .slice s5.a s5.n s5.c] 81)
  have hb6 := bl_alloc hb5 (.cells #[.int .u64 v.base, .int .i64 v.cap, .int .i64 v.tu, .bool v.cyc, .int .i64 v.scan, .slice s1.a s1.n s1.c, .slice s2.a s2.n s2.c, .slice s3.a s3.n s3.c, .slice s4.a s4.n s4.c, .slice s5.a s5.n s5.c] 81)
  have hr6 := blk_below hr5 (bl_alloc (bl_refl w5) (.cells #[.int .u64 v.base, .int .i64 v.cap, .int .i64 v.tu, .bool v.cyc, .int .i64 v.scan, .slice s1.a s1.n s1.c, .slice s2.a s2.n s2.c, .slice s3.a s3.n s3.c, .slice s4.a s4.n s4.c, .slice s5.a s5.n s5.c] 81)) (lt_of_heap hr5)
  have hk6 : (w5.alloc (.cells #[.int .u64 v.base, .int .i64 v.cap, .int .i64 v.tu, .bool v.cyc, .int .i64 v.scan, .slice s1.a s1.n s1.c, .slice s2.a s2.n s2.c, .slice s3.a s3.n s3.c, .slice s4.a s4.n s4.c, .slice s5.a s5.n s5.c] 81)).heap[w5.heap.size]? = some (.cells #[.int .u64 v.base, .int .i64 v.cap, .int .i64 v.tu, .bool v.cyc, .int .i64 v.scan, .slice s1.a s1.n s1.c, .slice s2.a s2.n s2.c, .slice s3.a s3.n s3.c, .slice s4.a s4.n s4.c, .slice s5.a s5.n s5.c] 81 (0, 0)) := heap_alloc_new _ _
  obtain ⟨Bz, hBz⟩ : ∃ B, B = (w2.alloc (.cells #[.int .i64 3, .int .i64 I] 27)).heap.size := ⟨_, rfl⟩
  have hw2 : w.heap.size ≤ w2.heap.size := by omega
  rw [← hBz] at f1 hB1 hgr
  clear hr5 hb5 hp5 hr3 hb3 hp3 hb hBz hz2 HL HF HO HIS
  go_wp2_with fail
  obtain ⟨W6, hW6⟩ : ∃ W, W = w5.alloc (.cells #[.int .u64 v.base, .int .i64 v.cap, .int .i64 v.tu, .bool v.cyc, .int .i64 v.scan, .slice s1.a s1.n s1.c, .slice s2.a s2.n s2.c, .slice s3.a s3.n s3.c, .slice s4.a s4.n s4.c, .slice s5.a s5.n s5.c] 81) := ⟨_, rfl⟩
  rw [← hW6] at f1 f2 f3 f4 f5 hp6 hb6 hr6 hk6 ⊢
  have hgs : W6.heap.size = w5.heap.size + 1 := by rw [hW6]; simp
  obtain ⟨gk, hgk⟩ : ∃ g, g = w5.heap.size := ⟨_, rfl⟩
  rw [← hgk] at hk6 hB6 ⊢
  have hgk1 : gk < W6.heap.size := by omega
  clear hW6 hgs hgk
  obtain ⟨gp, hgp⟩ : ∃ g, g = w2.heap.size := ⟨_, rfl⟩
  rw [← hgp] at hp6 hw2 ⊢
  clear hgp
  obtain ⟨gr, hgrE⟩ : ∃ g, g = w.heap.size + 1 := ⟨_, rfl⟩
  rw [← hgrE] at hr6 hgr ⊢
  have nwr : w.heap.size ≤ gr := by omega
  clear hgrE
  obtain ⟨b, hsa, hbB, hbB2, hfz⟩ := f3.2 (by omega)
  obtain ⟨hq1, hq2, hq3, hq4⟩ := f3.1
  obtain ⟨b2, off, hsa2, hblt, hcell⟩ := hq4.us_at hI1
  rw [hsa] at hsa2
  injection hsa2 with hsa2
  injection hsa2 with hsa3 hsa4
  subst hsa3; subst hsa4
  rw [Nat.zero_add] at hcell
  have hfI := hfz I.toNat hI1
  have hIn : I < (s3.n : Int) := by omega
  have hSn : (s3.n : Int) ≤ 9223372036854775807 := by omega
  have hpart : W6.cell? ⟨gk, 7, none⟩ = some (.slice (some ⟨b, 0, none⟩) s3.n s3.c) := by rw [← hsa]; exact blk_cell hk6 7
  obtain ⟨p0, p1⟩ := id hp6
  have z0 : gp < W6.heap.size := World.block_lt_of_cell? _ _ p0
  have hbk : b < gk := by omega
  clear hq1 hq2 hq3 hq4 hfz
  have HSA := Lib.hid hsa
  clear hsa
  refine wp_region_later_tail 10 (by kernel_rfl) (by kernel_rfl) ?_
  simp only [List.take_succ_cons, List.take_zero, List.drop_succ_cons, List.drop_zero]
  repeat (go_big_quiet_step ((with_reducible exact later_retB (HPT.out _ _))))
  refine wpQuiet_nil ?_
  intro _ hw'
  obtain ⟨x6, hw''⟩ := hw'
  subst hw''
  have hk7 := blk_below hk6 x6.below hgk1
  have hr7 := blk_below hr6 x6.below (lt_of_heap hr6)
  have hb7 := bl_step hb6 x6.below
  have f1 := f1.belowB x6.below (by omega)
  have f2 := f2.belowB x6.below (by omega)
  have f3 := f3.belowB x6.below (by omega)
  have f4 := f4.belowB x6.below (by omega)
  have f5 := f5.belowB x6.below (by omega)
  have hcell7 := cells_keep2 hcell x6.below
  have hf7 := (below_frozen x6.below b I.toNat hblt).trans hfI
  revert hk7 hr7 hb7 f1 f2 f3 f4 f5 hcell7 hf7
  obtain ⟨W7, hW7⟩ : ∃ W, W = x6.w := ⟨_, rfl⟩
  rw [← hW7]
  intro hk7 hr7 hb7 f1 f2 f3 f4 f5 hcell7 hf7
  clear hW7 x6 hcell hfI hpart p0 p1 z0 hk6 hr6 hb6 hp6
  have r0 : W7.cell? ⟨gr, 0, none⟩ = some (.int .u64 0) := blk_cell hr7 0
  have c0 : W7.cell? ⟨gk, 0, none⟩ = some (.int .u64 v.base) := blk_cell hk7 0
  have r1 : W7.cell? ⟨gr, 1, none⟩ = some (.int .i64 0) := blk_cell hr7 1
  have c1 : W7.cell? ⟨gk, 1, none⟩ = some (.int .i64 v.cap) := blk_cell hk7 1
  have r2 : W7.cell? ⟨gr, 2, none⟩ = some (.int .i64 0) := blk_cell hr7 2
  have c2 : W7.cell? ⟨gk, 2, none⟩ = some (.int .i64 v.tu) := blk_cell hk7 2
  have r3 : W7.cell? ⟨gr, 3, none⟩ = some (.bool false) := blk_cell hr7 3
  have c3 : W7.cell? ⟨gk, 3, none⟩ = some (.bool v.cyc) := blk_cell hk7 3
  have r4 : W7.cell? ⟨gr, 4, none⟩ = some (.int .i64 0) := blk_cell hr7 4
  have c4 : W7.cell? ⟨gk, 4, none⟩ = some (.int .i64 v.scan) := blk_cell hk7 4
  have r5 : W7.cell? ⟨gr, 5, none⟩ = some (.slice none 0 0) := blk_cell hr7 5
  have c5 : W7.cell? ⟨gk, 5, none⟩ = some (.slice s1.a s1.n s1.c) := blk_cell hk7 5
  have r6 : W7.cell? ⟨gr, 6, none⟩ = some (.slice none 0 0) := blk_cell hr7 6
  have c6 : W7.cell? ⟨gk, 6, none⟩ = some (.slice s2.a s2.n s2.c) := blk_cell hk7 6
  have r7 : W7.cell? ⟨gr, 7, none⟩ = some (.slice none 0 0) := blk_cell hr7 7
  have c7 : W7.cell? ⟨gk, 7, none⟩ = some (.slice s3.a s3.n s3.c) := blk_cell hk7 7
  have r8 : W7.cell? ⟨gr, 8, none⟩ = some (.slice none 0 0) := blk_cell hr7 8
  have c8 : W7.cell? ⟨gk, 8, none⟩ = some (.slice s4.a s4.n s4.c) := blk_cell hk7 8
  have r9 : W7.cell? ⟨gr, 9, none⟩ = some (.slice none 0 0) := blk_cell hr7 9
  have c9 : W7.cell? ⟨gk, 9, none⟩ = some (.slice s5.a s5.n s5.c) := blk_cell hk7 9
  have fr := fun i => blk_frozen hr7 i
  have n1 : b ≠ gk := by omega
  have n2 : b ≠ gr := by omega
  have n3 : gk ≠ b := by omega
  have n4 : gr ≠ b := by omega
  have n5 : gk ≠ gr := by omega
  have n6 : gr ≠ gk := by omega
  clear hk7 hr7
  go_wp2
  refine bodyPost_ret (v := .tuple #[.agg #[.int .u64 v.base, .int .i64 v.cap, .int .i64 v.tu, .bool v.cyc, .int .i64 v.scan, .slice s1.a s1.n s1.c, .slice s2.a s2.n s2.c, .slice s3.a s3.n s3.c, .slice s4.a s4.n s4.c, .slice s5.a s5.n s5.c], .int .i64 0]) (by simp [results, Try.results41, go_sem, n1, n2, n3, n4, n5, n6, r0, r1, r2, r3, r4, r5, r6, r7, r8, r9]) rfl ?_
  refine ⟨⟨v.base, v.cap, v.tu, v.cyc, v.scan, s1, s2, s3, s4, s5⟩, rfl, ⟨HSC.out, ?_, ?_, ?_, ?_, ?_⟩, ?_⟩
  · suffices hh : Fresh _ Bz B1 s1 h.low from hh.1
    repeat (with_reducible refine Fresh.far (g := gr) ?_ (.inl (by omega)))
    exact (f1.far (g := b) (.inr (by omega)))
  · suffices hh : Fresh _ B1 B2 s2 h.high from hh.1
    repeat (with_reducible refine Fresh.far (g := gr) ?_ (.inl (by omega)))
    exact (f2.far (g := b) (.inr (by omega)))
  · suffices hh : Fresh _ B2 B3 s3 (h.old.set I.toNat x) from hh.1
    repeat (with_reducible refine Fresh.far (g := gr) ?_ (.inl (by omega)))
    exact (f3.put HSA.out hI1)
  · suffices hh : Fresh _ B3 B4 s4 h.far from hh.1
    repeat (with_reducible refine Fresh.far (g := gr) ?_ (.inl (by omega)))
    exact (f4.far (g := b) (.inl (by omega)))
  · suffices hh : Fresh _ B4 B5 s5 h.roots from hh.1
    repeat (with_reducible refine Fresh.far (g := gr) ?_ (.inl (by omega)))
    exact (f5.far (g := b) (.inl (by omega)))
  · repeat (with_reducible refine Below.setCell (p := ⟨gr, _, none⟩) ?_ nwr _)
    exact hb7.setCell (p := ⟨b, I.toNat, none⟩) (by show w.heap.size ≤ b; omega) _


set_option maxRecDepth 100000 in
set_option maxHeartbeats 4000000 in
theorem write_4 (v : Hv) (h : Hp) (y : Int) (x : Nat) (w : World) (his : v.Is w h) (wf : h.lay.Wf) (hy1 : 0 ≤ y) (hy2 : y < 18446744073709551616)
    (k1 : h.low.length ≤ 1000) (k2 : h.high.length ≤ 1000) (k3 : h.old.length ≤ 1000) (k4 : h.far.length ≤ 1000) (k5 : h.roots.length ≤ 1000) (hok : h.lay.Ok) (hk : fndK h.lay y = 4) :
    Calls Try.prog 41 #[.agg v.cells, .int .u64 y, .int .u64 (x : Int)] w (HeapRet (wrR h y x) (fndE h.lay y) w) := by
  have hf : h.lay.Ok ∧ fndK h.lay y ≠ 0 := ⟨hok, by omega⟩
  have HL := Lib.hid fun W => hlayout_any v W
  have HF := Lib.hid fun W => find_any h.lay y W wf hy1 hy2
  have HO := Lib.hid fun W (hW : v.Is W h) => own_any v h W hW k1 k2 k3 k4 k5
  rw [his.lay] at HL
  have hsc := his.1
  have HIS := Lib.hid his
  have hfe : fndE h.lay y = 0 := by rw [fndE, if_pos hok, if_neg hf.2]
  have hlt := fndI_lt h y hok hf.2
  have hpe : fndP h.lay y = 4 := by rw [fndP, if_pos hok, hk]; rfl
  rw [hk] at hlt
  have hwr : wrR h y x = { h with far := h.far.set (fndI h.lay y).toNat x } := by rw [wrR, if_pos hf, wrH, hk]; rfl
  rw [hwr, hfe]
  rw [fndV, hpe, hfe] at HF
  obtain ⟨I, hI⟩ : ∃ I, I = fndI h.lay y := ⟨_, rfl⟩
  rw [← hI] at HF hlt ⊢
  obtain ⟨hI0, hI1⟩ := hlt
  replace hI1 : I.toNat < h.far.length := hI1
  have HSC := Lib.hid hsc
  have HPT := Lib.hid fun g W => wpart_any g 4 W (by omega) (by omega)
  clear hwr hfe hpe hf hk hI wf his hsc hok
  simp only [Hv.cells, Sl.v, Lay.cells] at HL HF HO ⊢
  go_enter Try.func41, Try.ntmps41
  go_wp2_with fail
  have hx0 := (HeapAt.lit w v 50).alloc (.cells #[.int .u64 0, .int .i64 0, .int .i64 0, .bool false, .int .i64 0, .slice none 0 0, .slice none 0 0, .slice none 0 0, .slice none 0 0, .slice none 0 0] 50)
  have hr0 : ((w.alloc (.cells v.cells 50)).alloc (.cells #[.int .u64 0, .int .i64 0, .int .i64 0, .bool false, .int .i64 0, .slice none 0 0, .slice none 0 0, .slice none 0 0, .slice none 0 0, .slice none 0 0] 50)).heap[w.heap.size + 1]? = some (.cells #[.int .u64 0, .int .i64 0, .int .i64 0, .bool false, .int .i64 0, .slice none 0 0, .slice none 0 0, .slice none 0 0, .slice none 0 0, .slice none 0 0] 50 (0, 0)) := by
    rw [show w.heap.size + 1 = (w.alloc (.cells v.cells 50)).heap.size by simp]
    exact heap_alloc_new _ _
  have hb0 : Below w.heap.size w ((w.alloc (.cells v.cells 50)).alloc (.cells #[.int .u64 0, .int .i64 0, .int .i64 0, .bool false, .int .i64 0, .slice none 0 0, .slice none 0 0, .slice none 0 0, .slice none 0 0, .slice none 0 0] 50)) := bl_alloc (bl_alloc (bl_refl w) _) _
  simp only [Hv.cells, Sl.v] at hx0 hr0 hb0
  refine (HL.out _).mono ?_
  intro e w1 hr
  obtain ⟨rfl, hb⟩ := hr.both
  have hx1 := hx0.below hb
  have hr1 := blk_below hr0 hb (lt_of_heap hr0)
  have hb1 := bl_step hb0 hb
  clear hr hb hx0 hr0 hb0
  go_wp2_with fail
  refine (HF.out _).mono ?_
  intro e w2 hr
  obtain ⟨rfl, hb⟩ := hr.both
  have hx2 := hx1.below hb
  have hr2 := blk_below hr1 hb (lt_of_heap hr1)
  have hb2 := bl_step hb1 hb
  have hx3 := hx2.alloc (.cells #[.int .i64 4, .int .i64 I] 27)
  have hr3 := blk_below hr2 (bl_alloc (bl_refl w2) (.cells #[.int .i64 4, .int .i64 I] 27)) (lt_of_heap hr2)
  have hb3 := bl_alloc hb2 (.cells #[.int .i64 4, .int .i64 I] 27)
  have hp3 := TwoAt.lit w2 (.int .i64 4) (.int .i64 I) 27
  have hz2 : w.heap.size < w2.heap.size := World.block_lt_of_cell? _ _ hx2.1
  obtain ⟨c0, c1, c2, c3, c4, c5, c6, c7, c8, c9⟩ := id hx2
  clear hr hb hx1 hr1 hb1 hx2 hr2 hb2 hx3
  go_wp2_with fail
  clear c0 c1 c2 c3 c4 c5 c6 c7 c8 c9
  have hgr : w.heap.size + 1 < (w2.alloc (.cells #[.int .i64 4, .int .i64 I] 27)).heap.size := lt_of_heap hr3
  refine (HO.out _ (HIS.out.below hb3)).mono ?_
  intro e w5 hr
  obtain ⟨s1, s2, s3, s4, s5, B1, B2, B3, B4, B5, rfl, hB1, hB2, hB3, hB4, hB5, hB6, f1, f2, f3, f4, f5, hb⟩ := hr
  have hr5 := blk_below hr3 hb hgr
  have hb5 := bl_step hb3 hb
  have hp5 := hp3.below hb
  simp only [Hv.cells, Sl.v]
  have f1 := f1.belowB (bl_alloc (bl_refl w5) (.cells #[.int .u64 v.base, .int .i64 v.cap, .int .i64 v.tu, .bool v.cyc, .int .i64 v.scan, .slice s1.a s1.n s1.c, .slice s2.a s2.n s2.c, .slice s3.a s3.n s3.c, .slice s4.a s4.n s4.c, .slice s5.a s5.n s5.c] 81)) (by omega)
  have f2 := f2.belowB (bl_alloc (bl_refl w5) (.cells #[.int .u64 v.base, .int .i64 v.cap, .int .i64 v.tu, .bool v.cyc, .int .i64 v.scan, .slice s1.a s1.n s1.c, .slice s2.a s2.n s2.c, .slice s3.a s3.n s3.c, .slice s4.a s4.n s4.c, .slice s5.a s5.n s5.c] 81)) (by omega)
  have f3 := f3.belowB (bl_alloc (bl_refl w5) (.cells #[.int .u64 v.base, .int .i64 v.cap, .int .i64 v.tu, .bool v.cyc, .int .i64 v.scan, .slice s1.a s1.n s1.c, .slice s2.a s2.n s2.c, .slice s3.a s3.n s3.c, .slice s4.a s4.n s4.c, .slice s5.a s5.n s5.c] 81)) (by omega)
  have f4 := f4.belowB (bl_alloc (bl_refl w5) (.cells #[.int .u64 v.base, .int .i64 v.cap, .int .i64 v.tu, .bool v.cyc, .int .i64 v.scan, .slice s1.a s1.n s1.c, .slice s2.a s2.n s2.c, .slice s3.a s3.n s3.c, .slice s4.a s4.n s4.c, .slice s5.a s5.n s5.c] 81)) (by omega)
  have f5 := f5.belowB (bl_alloc (bl_refl w5) (.cells #[.int .u64 v.base, .int .i64 v.cap, .int .i64 v.tu, .bool v.cyc, .int .i64 v.scan, .slice s1.a s1.n s1.c, .slice s2.a s2.n s2.c, .slice s3.a s3.n s3.c, .slice s4.a s4.n s4.c, .slice s5.a s5.n s5.c] 81)) (by omega)
  have hp6 := hp5.alloc (.cells #[.int .u64 v.base, .int .i64 v.cap, .int .i64 v.tu, .bool v.cyc, .int .i64 v.scan, .slice s1.a s1.n s1.c, .slice s2.a s2.n s2.c, .slice s3.a s3.n s3.c, .slice s4.a s4.n s4.c, .slice s5.a s5.n s5.c] 81)
  have hb6 := bl_alloc hb5 (.cells #[.int .u64 v.base, .int .i64 v.cap, .int .i64 v.tu, .bool v.cyc, .int .i64 v.scan, .slice s1.a s1.n s1.c, .slice s2.a s2.n s2.c, .slice s3.a s3.n s3.c, .slice s4.a s4.n s4.c, .slice s5.a s5.n s5.c] 81)
  have hr6 := blk_below hr5 (bl_alloc (bl_refl w5) (.cells #[.int .u64 v.base, .int .i64 v.cap, .int .i64 v.tu, .bool v.cyc, .int .i64 v.scan, .slice s1.a s1.n s1.c, .slice s2.a s2.n s2.c, .slice s3.a s3.n s3.c, .slice s4.a s4.n s4.c, .slice s5.a s5.n s5.c] 81)) (lt_of_heap hr5)
  have hk6 : (w5.alloc (.cells #[.int .u64 v.base, .int .i64 v.cap, .int .i64 v.tu, .bool v.cyc, .int .i64 v.scan, .slice s1.a s1.n s1.c, .slice s2.a s2.n s2.c, .slice s3.a s3.n s3.c, .slice s4.a s4.n s4.c, .slice s5.a s5.n s5.c] 81)).heap[w5.heap.size]? = some (.cells #[.int .u64 v.base, .int .i64 v.cap, .int .i64 v.tu, .bool v.cyc, .int .i64 v.scan, .slice s1.a s1.n s1.c, .slice s2.a s2.n s2.c, .slice s3.a s3.n s3.c, .slice s4.a s4.n s4.c, .slice s5.a s5.n s5.c] 81 (0, 0)) := heap_alloc_new _ _
  obtain ⟨Bz, hBz⟩ : ∃ B, B = (w2.alloc (.cells #[.int .i64 4, .int .i64 I] 27)).heap.size := ⟨_, rfl⟩
  have hw2 : w.heap.size ≤ w2.heap.size := by omega
  rw [← hBz] at f1 hB1 hgr
  clear hr5 hb5 hp5 hr3 hb3 hp3 hb hBz hz2 HL HF HO HIS
  go_wp2_with fail
  obtain ⟨W6, hW6⟩ : ∃ W, W = w5.alloc (.cells #[.int .u64 v.base, .int .i64 v.cap, .int .i64 v.tu, .bool v.cyc, .int .i64 v.scan, .slice s1.a s1.n s1.c, .slice s2.a s2.n s2.c, .slice s3.a s3.n s3.c, .slice s4.a s4.n s4.c, .slice s5.a s5.n s5.c] 81) := ⟨_, rfl⟩
  rw [← hW6] at f1 f2 f3 f4 f5 hp6 hb6 hr6 hk6 ⊢
  have hgs : W6.heap.size = w5.heap.size + 1 := by rw [hW6]; simp
  obtain ⟨gk, hgk⟩ : ∃ g, g = w5.heap.size := ⟨_, rfl⟩
  rw [← hgk] at hk6 hB6 ⊢
  have hgk1 : gk < W6.heap.size := by omega
  clear hW6 hgs hgk
  obtain ⟨gp, hgp⟩ : ∃ g, g = w2.heap.size := ⟨_, rfl⟩
  rw [← hgp] at hp6 hw2 ⊢
  clear hgp
  obtain ⟨gr, hgrE⟩ : ∃ g, g = w.heap.size + 1 := ⟨_, rfl⟩
  rw [← hgrE] at hr6 hgr ⊢
  have nwr : w.heap.size ≤ gr := by omega
  clear hgrE
  obtain ⟨b, hsa, hbB, hbB2, hfz⟩ := f4.2 (by omega)
  obtain ⟨hq1, hq2, hq3, hq4⟩ := f4.1
  obtain ⟨b2, off, hsa2, hblt, hcell⟩ := hq4.us_at hI1
  rw [hsa] at hsa2
  injection hsa2 with hsa2
  injection hsa2 with hsa3 hsa4
  subst hsa3; subst hsa4
  rw [Nat.zero_add] at hcell
  have hfI := hfz I.toNat hI1
  have hIn : I < (s4.n : Int) := by omega
  have hSn : (s4.n : Int) ≤ 9223372036854775807 := by omega
  have hpart : W6.cell? ⟨gk, 8, none⟩ = some (.slice (some ⟨b, 0, none⟩) s4.n s4.c) := by rw [← hsa]; exact blk_cell hk6 8
  obtain ⟨p0, p1⟩ := id hp6
  have z0 : gp < W6.heap.size := World.block_lt_of_cell? _ _ p0
  have hbk : b < gk := by omega
  clear hq1 hq2 hq3 hq4 hfz
  have HSA := Lib.hid hsa
  clear hsa
  refine wp_region_later_tail 10 (by kernel_rfl) (by kernel_rfl) ?_
  simp only [List.take_succ_cons, List.take_zero, List.drop_succ_cons, List.drop_zero]
  repeat (go_big_quiet_step ((with_reducible exact later_retB (HPT.out _ _))))
  refine wpQuiet_nil ?_
  intro _ hw'
  obtain ⟨x6, hw''⟩ := hw'
  subst hw''
  have hk7 := blk_below hk6 x6.below hgk1
  have hr7 := blk_below hr6 x6.below (lt_of_heap hr6)
  have hb7 := bl_step hb6 x6.below
  have f1 := f1.belowB x6.below (by omega)
  have f2 := f2.belowB x6.below (by omega)
  have f3 := f3.belowB x6.below (by omega)
  have f4 := f4.belowB x6.below (by omega)
  have f5 := f5.belowB x6.below (by omega)
  have hcell7 := cells_keep2 hcell x6.below
  have hf7 := (below_frozen x6.below b I.toNat hblt).trans hfI
  revert hk7 hr7 hb7 f1 f2 f3 f4 f5 hcell7 hf7
  obtain ⟨W7, hW7⟩ : ∃ W, W = x6.w := ⟨_, rfl⟩
  rw [← hW7]
  intro hk7 hr7 hb7 f1 f2 f3 f4 f5 hcell7 hf7
  clear hW7 x6 hcell hfI hpart p0 p1 z0 hk6 hr6 hb6 hp6
  have r0 : W7.cell? ⟨gr, 0, none⟩ = some (.int .u64 0) := blk_cell hr7 0
  have c0 : W7.cell? ⟨gk, 0, none⟩ = some (.int .u64 v.base) := blk_cell hk7 0
  have r1 : W7.cell? ⟨gr, 1, none⟩ = some (.int .i64 0) := blk_cell hr7 1
  have c1 : W7.cell? ⟨gk, 1, none⟩ = some (.int .i64 v.cap) := blk_cell hk7 1
  have r2 : W7.cell? ⟨gr, 2, none⟩ = some (.int .i64 0) := blk_cell hr7 2
  have c2 : W7.cell? ⟨gk, 2, none⟩ = some (.int .i64 v.tu) := blk_cell hk7 2
  have r3 : W7.cell? ⟨gr, 3, none⟩ = some (.bool false) := blk_cell hr7 3
  have c3 : W7.cell? ⟨gk, 3, none⟩ = some (.bool v.cyc) := blk_cell hk7 3
  have r4 : W7.cell? ⟨gr, 4, none⟩ = some (.int .i64 0) := blk_cell hr7 4
  have c4 : W7.cell? ⟨gk, 4, none⟩ = some (.int .i64 v.scan) := blk_cell hk7 4
  have r5 : W7.cell? ⟨gr, 5, none⟩ = some (.slice none 0 0) := blk_cell hr7 5
  have c5 : W7.cell? ⟨gk, 5, none⟩ = some (.slice s1.a s1.n s1.c) := blk_cell hk7 5
  have r6 : W7.cell? ⟨gr, 6, none⟩ = some (.slice none 0 0) := blk_cell hr7 6
  have c6 : W7.cell? ⟨gk, 6, none⟩ = some (.slice s2.a s2.n s2.c) := blk_cell hk7 6
  have r7 : W7.cell? ⟨gr, 7, none⟩ = some (.slice none 0 0) := blk_cell hr7 7
  have c7 : W7.cell? ⟨gk, 7, none⟩ = some (.slice s3.a s3.n s3.c) := blk_cell hk7 7
  have r8 : W7.cell? ⟨gr, 8, none⟩ = some (.slice none 0 0) := blk_cell hr7 8
  have c8 : W7.cell? ⟨gk, 8, none⟩ = some (.slice s4.a s4.n s4.c) := blk_cell hk7 8
  have r9 : W7.cell? ⟨gr, 9, none⟩ = some (.slice none 0 0) := blk_cell hr7 9
  have c9 : W7.cell? ⟨gk, 9, none⟩ = some (.slice s5.a s5.n s5.c) := blk_cell hk7 9
  have fr := fun i => blk_frozen hr7 i
  have n1 : b ≠ gk := by omega
  have n2 : b ≠ gr := by omega
  have n3 : gk ≠ b := by omega
  have n4 : gr ≠ b := by omega
  have n5 : gk ≠ gr := by omega
  have n6 : gr ≠ gk := by omega
  clear hk7 hr7
  go_wp2
  refine bodyPost_ret (v := .tuple #[.agg #[.int .u64 v.base, .int .i64 v.cap, .int .i64 v.tu, .bool v.cyc, .int .i64 v.scan, .slice s1.a s1.n s1.c, .slice s2.a s2.n s2.c, .slice s3.a s3.n s3.c, .slice s4.a s4.n s4.c, .slice s5.a s5.n s5.c], .int .i64 0]) (by simp [results, Try.results41, go_sem, n1, n2, n3, n4, n5, n6, r0, r1, r2, r3, r4, r5, r6, r7, r8, r9]) rfl ?_
  refine ⟨⟨v.base, v.cap, v.tu, v.cyc, v.scan, s1, s2, s3, s4, s5⟩, rfl, ⟨HSC.out, ?_, ?_, ?_, ?_, ?_⟩, ?_⟩
  · suffices hh : Fresh _ Bz B1 s1 h.low from hh.1
    repeat (with_reducible refine Fresh.far (g := gr) ?_ (.inl (by omega)))
    exact (f1.far (g := b) (.inr (by omega)))
  · suffices hh : Fresh _ B1 B2 s2 h.high from hh.1
    repeat (with_reducible refine Fresh.far (g := gr) ?_ (.inl (by omega)))
    exact (f2.far (g := b) (.inr (by omega)))
  · suffices hh : Fresh _ B2 B3 s3 h.old from hh.1
    repeat (with_reducible refine Fresh.far (g := gr) ?_ (.inl (by omega)))
    exact (f3.far (g := b) (.inr (by omega)))
  · suffices hh : Fresh _ B3 B4 s4 (h.far.set I.toNat x) from hh.1
    repeat (with_reducible refine Fresh.far (g := gr) ?_ (.inl (by omega)))
    exact (f4.put HSA.out hI1)
  · suffices hh : Fresh _ B4 B5 s5 h.roots from hh.1
    repeat (with_reducible refine Fresh.far (g := gr) ?_ (.inl (by omega)))
    exact (f5.far (g := b) (.inl (by omega)))
  · repeat (with_reducible refine Below.setCell (p := ⟨gr, _, none⟩) ?_ nwr _)
    exact hb7.setCell (p := ⟨b, I.toNat, none⟩) (by show w.heap.size ≤ b; omega) _


theorem write_any (v : Hv) (h : Hp) (y : Int) (x : Nat) (w : World) (his : v.Is w h) (wf : h.lay.Wf) (hy1 : 0 ≤ y) (hy2 : y < 18446744073709551616)
    (k1 : h.low.length ≤ 1000) (k2 : h.high.length ≤ 1000) (k3 : h.old.length ≤ 1000) (k4 : h.far.length ≤ 1000) (k5 : h.roots.length ≤ 1000) :
    Calls Try.prog 41 #[.agg v.cells, .int .u64 y, .int .u64 (x : Int)] w (HeapRet (wrR h y x) (fndE h.lay y) w) := by
  by_cases hf : h.lay.Ok ∧ fndK h.lay y ≠ 0
  · have := fndK_le h.lay y
    obtain e | e | e | e : fndK h.lay y = 1 ∨ fndK h.lay y = 2 ∨ fndK h.lay y = 3 ∨ fndK h.lay y = 4 := by omega
    · exact write_1 v h y x w his wf hy1 hy2 k1 k2 k3 k4 k5 hf.1 e
    · exact write_2 v h y x w his wf hy1 hy2 k1 k2 k3 k4 k5 hf.1 e
    · exact write_3 v h y x w his wf hy1 hy2 k1 k2 k3 k4 k5 hf.1 e
    · exact write_4 v h y x w his wf hy1 hy2 k1 k2 k3 k4 k5 hf.1 e
  · exact write_no v h y x w his wf hy1 hy2 hf
end Go.Proofs.Ytappejihclmjmaa
