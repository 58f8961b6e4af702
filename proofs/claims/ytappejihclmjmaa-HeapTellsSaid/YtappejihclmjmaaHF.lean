/-
  Contract of layer 10: Write of the document. Conditions: the value reads as a heap whose numbers fit, of at most 1000 words a part.
-/
import Derived.Test.YtappejihclmjmaaHE
import Derived.Test.YtappejihclmjmaaHD
namespace Go.Proofs.Ytappejihclmjmaa
open Go.RowKit
attribute [local go_sem ↓] Go.wp_at_zero Go.wp_at_succ

theorem with_is {v : Hv} {w : World} {h : Hp} {s : Sl} {l : List Nat} (hv : v.Is w h) (hs : s.Is w l) (p : Nat) (hp : 1 ≤ p) (hp4 : p ≤ 4) : (v.with (p : Int) s).Is w (h.with p l) := by
  obtain ⟨h0, h1, h2, h3, h4, h5⟩ := hv
  obtain rfl | rfl | rfl | rfl : p = 1 ∨ p = 2 ∨ p = 3 ∨ p = 4 := by omega
  · exact ⟨h0, hs, h2, h3, h4, h5⟩
  · exact ⟨h0, h1, hs, h3, h4, h5⟩
  · exact ⟨h0, h1, h2, hs, h4, h5⟩
  · exact ⟨h0, h1, h2, h3, hs, h5⟩

set_option maxRecDepth 100000 in
set_option maxHeartbeats 2000000 in
theorem rwrite_no (v : Hv) (h : Hp) (y : Int) (x : Nat) (w : World) (his : v.Is w h) (wf : h.lay.Wf) (hy1 : 0 ≤ y) (hy2 : y < 18446744073709551616) (hf : ¬ (h.lay.Ok ∧ fndK h.lay y ≠ 0)) :
    Calls Try.prog 42 #[.agg v.cells, .int .u64 y, .int .u64 (x : Int)] w (HeapRet (wrR h y x) (fndE h.lay y) w) := by
  have HL := Lib.hid fun W => rhlayout_any v W
  have HF := Lib.hid fun W => rfind_any h.lay y W wf hy1 hy2
  rw [his.lay] at HL
  have hE : ∃ P I E : Int, fndV h.lay y = .tuple #[.agg #[.int .i64 P, .int .i64 I], .int .i64 E] ∧ E = fndE h.lay y := ⟨_, _, _, rfl, rfl⟩
  obtain ⟨P, I, E, hV, hEe⟩ := hE
  have hne : (E != 0) = true := by
    rw [hEe, fndE]
    by_cases c : h.lay.Ok
    · rw [if_pos c, if_pos (by
        by_cases d : fndK h.lay y = 0
        · exact d
        · exact absurd ⟨c, d⟩ hf)]
      rfl
    · rw [if_neg c]; rfl
  rw [hV] at HF
  rw [wrR, if_neg hf, ← hEe]
  clear hV hEe hf his wf
  simp only [Hv.cells, Sl.v, Lay.cells] at HL HF ⊢
  go_enter Try.func42, Try.ntmps42
  go_wp2_with fail
  have hr0 : ((w.alloc (.cells v.cells 50)).alloc (.cells #[.int .u64 0, .int .i64 0, .int .i64 0, .bool false, .int .i64 0, .slice none 0 0, .slice none 0 0, .slice none 0 0, .slice none 0 0, .slice none 0 0] 50)).heap[w.heap.size + 1]? = some (.cells #[.int .u64 0, .int .i64 0, .int .i64 0, .bool false, .int .i64 0, .slice none 0 0, .slice none 0 0, .slice none 0 0, .slice none 0 0, .slice none 0 0] 50 (0, 0)) := by
    rw [show w.heap.size + 1 = (w.alloc (.cells v.cells 50)).heap.size by simp]
    exact heap_alloc_new _ _
  have hb0 : Below w.heap.size w ((w.alloc (.cells v.cells 50)).alloc (.cells #[.int .u64 0, .int .i64 0, .int .i64 0, .bool false, .int .i64 0, .slice none 0 0, .slice none 0 0, .slice none 0 0, .slice none 0 0, .slice none 0 0] 50)) := bl_alloc (bl_alloc (bl_refl w) _) _
  simp only [Hv.cells, Sl.v] at hr0 hb0
  refine (HL.out _).mono ?_
  intro e w1 hr
  obtain ⟨rfl, hb⟩ := hr.both
  have hr1 := blk_below hr0 hb (lt_of_heap hr0)
  have hb1 := bl_step hb0 hb
  clear hr hb hr0 hb0
  go_wp2_with fail
  refine (HF.out _).mono ?_
  intro e w2 hr
  obtain ⟨rfl, hb⟩ := hr.both
  have hr2 := blk_below hr1 hb (lt_of_heap hr1)
  have hb2 := bl_step hb1 hb
  have hr3 := hr2
  obtain ⟨gr, hgr⟩ : ∃ g, g = w.heap.size + 1 := ⟨_, rfl⟩
  rw [← hgr] at hr3
  have hz : gr < w2.heap.size := lt_of_heap hr3
  have hz' : w.heap.size + 1 < w2.heap.size := by omega
  have nwr : w.heap.size ≤ gr := by omega
  have hfr := fun i => blk_frozen hr3 i
  have r0 : w2.cell? ⟨gr, 0, none⟩ = some (.int .u64 0) := blk_cell hr3 0
  have r1 : w2.cell? ⟨gr, 1, none⟩ = some (.int .i64 0) := blk_cell hr3 1
  have r2 : w2.cell? ⟨gr, 2, none⟩ = some (.int .i64 0) := blk_cell hr3 2
  have r3 : w2.cell? ⟨gr, 3, none⟩ = some (.bool false) := blk_cell hr3 3
  have r4 : w2.cell? ⟨gr, 4, none⟩ = some (.int .i64 0) := blk_cell hr3 4
  have r5 : w2.cell? ⟨gr, 5, none⟩ = some (.slice none 0 0) := blk_cell hr3 5
  have r6 : w2.cell? ⟨gr, 6, none⟩ = some (.slice none 0 0) := blk_cell hr3 6
  have r7 : w2.cell? ⟨gr, 7, none⟩ = some (.slice none 0 0) := blk_cell hr3 7
  have r8 : w2.cell? ⟨gr, 8, none⟩ = some (.slice none 0 0) := blk_cell hr3 8
  have r9 : w2.cell? ⟨gr, 9, none⟩ = some (.slice none 0 0) := blk_cell hr3 9
  clear hr hb hr1 hb1 hr2 hr3
  rw [hgr] at hfr r0 r1 r2 r3 r4 r5 r6 r7 r8 r9 nwr hz
  clear hgr
  go_wp2
  refine bodyPost_ret (v := .tuple #[.agg #[.int .u64 0, .int .i64 0, .int .i64 0, .bool false, .int .i64 0, .slice none 0 0, .slice none 0 0, .slice none 0 0, .slice none 0 0, .slice none 0 0], .int .i64 E]) (by simp [results, Try.results42, go_sem, hz', r0, r1, r2, r3, r4, r5, r6, r7, r8, r9]) rfl ?_
  refine ⟨hvz, rfl, hvz_is _, ?_⟩
  refine bl_alloc ?_ _
  repeat (with_reducible refine Below.setCell ?_ (by simp) _)
  exact hb2

set_option maxRecDepth 100000 in
set_option maxHeartbeats 4000000 in
theorem rwrite_yes (v : Hv) (h : Hp) (y : Int) (x : Nat) (w : World) (his : v.Is w h) (wf : h.lay.Wf) (hy1 : 0 ≤ y) (hy2 : y < 18446744073709551616) (hf : h.lay.Ok ∧ fndK h.lay y ≠ 0) (hpl : (h.part (fndK h.lay y)).length ≤ 1000) :
    Calls Try.prog 42 #[.agg v.cells, .int .u64 y, .int .u64 (x : Int)] w (HeapRet (wrR h y x) (fndE h.lay y) w) := by
  have HL := Lib.hid fun W => rhlayout_any v W
  have HF := Lib.hid fun W => rfind_any h.lay y W wf hy1 hy2
  rw [his.lay] at HL
  have HIS := Lib.hid his
  have hfe : fndE h.lay y = 0 := by rw [fndE, if_pos hf.1, if_neg hf.2]
  have hlt := fndI_lt h y hf.1 hf.2
  have hkb := fndK_le h.lay y
  have hpe : fndP h.lay y = (fndK h.lay y : Int) := by rw [fndP, if_pos hf.1]
  have hsl := his.part (fndK h.lay y) (by omega) hkb
  have hwr : wrR h y x = h.with (fndK h.lay y) ((h.part (fndK h.lay y)).set (fndI h.lay y).toNat x) := by rw [wrR, if_pos hf, wrH]
  rw [hwr, hfe]
  rw [fndV, hpe, hfe] at HF
  obtain ⟨k, hk⟩ : ∃ k, k = fndK h.lay y := ⟨_, rfl⟩
  obtain ⟨I, hI⟩ : ∃ I, I = fndI h.lay y := ⟨_, rfl⟩
  rw [← hk] at HF hsl hlt hpl hkb
  rw [← hI] at HF hlt
  rw [← hk, ← hI]
  have hk1 : 1 ≤ k := by have := hf.2; omega
  obtain ⟨P, hP⟩ : ∃ P : Int, P = (k : Int) := ⟨_, rfl⟩
  obtain ⟨L, hL⟩ : ∃ L, L = h.part k := ⟨_, rfl⟩
  obtain ⟨S, hS⟩ : ∃ S, S = v.part P := ⟨_, rfl⟩
  rw [← hP] at HF
  rw [← hP, ← hS, ← hL] at hsl
  rw [← hL] at hlt hpl
  rw [← hL]
  obtain ⟨hI0, hI1⟩ := hlt
  obtain ⟨hs1, hs2, hs3, hs4⟩ := hsl
  have hPP := fun W => part_any v P W (by omega) (by omega)
  rw [← hS] at hPP
  have HPT := Lib.hid hPP
  have HWT := Lib.hid fun s W => with_any v P s W (by omega) (by omega)
  have HWI := Lib.hid fun (W : World) (s : Sl) (l : List Nat) (a : v.Is W h) (b : s.Is W l) => with_is a b k hk1 hkb
  rw [← hP] at HWI
  have HS4 := Lib.hid hs4
  have HS1 := Lib.hid hs1
  clear hwr hfe hpe hf hk hI wf his hPP hP hL hS hs1 hs4 hkb hk1
  simp only [Hv.cells, Sl.v, Lay.cells] at HL HF HPT ⊢
  go_enter Try.func42, Try.ntmps42
  go_wp2_with fail
  have hx0 := (HeapAt.lit w v 50).alloc (.cells #[.int .u64 0, .int .i64 0, .int .i64 0, .bool false, .int .i64 0, .slice none 0 0, .slice none 0 0, .slice none 0 0, .slice none 0 0, .slice none 0 0] 50)
  have hr0 : ((w.alloc (.cells v.cells 50)).alloc (.cells #[.int .u64 0, .int .i64 0, .int .i64 0, .bool false, .int .i64 0, .slice none 0 0, .slice none 0 0, .slice none 0 0, .slice none 0 0, .slice none 0 0] 50)).heap[w.heap.size + 1]? = some (.cells #[.int .u64 0, .int .i64 0, .int .i64 0, .bool false, .int .i64 0, .slice none 0 0, .slice none 0 0, .slice none 0 0, .slice none 0 0, .slice none 0 0] 50 (0, 0)) := by
    rw [show w.heap.size + 1 = (w.alloc (.cells v.cells 50)).heap.size by simp]
    exact heap_alloc_new _ _
  have hb0 : Below w.heap.size w ((w.alloc (.cells v.cells 50)).alloc (.cells #[.int .u64 0, .int .i64 0, .int .i64 0, .bool false, .int .i64 0, .slice none 0 0, .slice none 0 0, .slice none 0 0, .slice none 0 0, .slice none 0 0] 50)) := bl_alloc (bl_alloc (bl_refl w) _) _
  simp only [Hv.cells, Sl.v] at hx0 hr0 hb0
  refine (HL.out _).mono ?_
  intro e w1 hr
  obtain ⟨rfl, hb⟩ := hr.both
  have hx1 := hx0.below hb
  have hr1 := blk_below hr0 hb (lt_of_heap hr0)
  have hb1 := bl_step hb0 hb
  clear hr hb hx0 hr0 hb0
  go_wp2_with fail
  refine (HF.out _).mono ?_
  intro e w2 hr
  obtain ⟨rfl, hb⟩ := hr.both
  have hx2 := hx1.below hb
  have hr2 := blk_below hr1 hb (lt_of_heap hr1)
  have hb2 := bl_step hb1 hb
  have hx3 := hx2.alloc (.cells #[.int .i64 P, .int .i64 I] 27)
  have hr3 := blk_below hr2 (bl_alloc (bl_refl w2) (.cells #[.int .i64 P, .int .i64 I] 27)) (lt_of_heap hr2)
  have hb3 := bl_alloc hb2 (.cells #[.int .i64 P, .int .i64 I] 27)
  have hp3 := TwoAt.lit w2 (.int .i64 P) (.int .i64 I) 27
  have hz2 : w.heap.size < w2.heap.size := World.block_lt_of_cell? _ _ hx2.1
  obtain ⟨c0, c1, c2, c3, c4, c5, c6, c7, c8, c9⟩ := id hx2
  clear hr hb hx1 hr1 hb1 hr2 hb2
  go_wp2_with fail
  clear c0 c1 c2 c3 c4 c5 c6 c7 c8 c9 hx2 hz2
  obtain ⟨gp, hgp⟩ : ∃ g, g = w2.heap.size := ⟨_, rfl⟩
  rw [← hgp] at hp3
  refine (HPT.out _).mono ?_
  intro e w5 hr
  obtain ⟨rfl, hb⟩ := hr.both
  have hx5 := hx3.below hb
  have hr5 := blk_below hr3 hb (lt_of_heap hr3)
  have hb5 := bl_step hb3 hb
  have hp5 := hp3.below hb
  rw [← hgp]
  have Q4 := Lib.hid (HS4.out.below hb5)
  have hs1 := HS1.out
  rw [← hs1]
  have hb5s : w.heap.size ≤ w5.heap.size := hb5.size
  clear hr hb hx3 hr3 hb3 hp3 hs1 hgp
  go_wp2_with (at_builtin; refine wpList_append_rd rfl _ _ rfl w5.heap.size (.slice none 0 0) 0 [] rfl (World.ownsRow_nil _ _ _ _) (Nat.le_refl _) S.a S.c L rfl Q4.out (by omega) ?_)
  intro v' w6 ho hb
  obtain ⟨s, rfl, fs⟩ := Fresh.of_own ho
  have hx6 := hx5.below hb
  have hr6 := blk_below hr5 hb (lt_of_heap hr5)
  have hb6 := bl_step hb5 hb
  have hp6 := hp5.below hb
  have hgr : w.heap.size + 1 < w5.heap.size := lt_of_heap hr5
  obtain ⟨b, hsa, hbB, hbB2, hfz⟩ := fs.2 (by omega)
  obtain ⟨hq1, hq2, hq3, hq4⟩ := fs.1
  obtain ⟨b2, off, hsa2, hblt, hcell⟩ := hq4.us_at hI1
  rw [hsa] at hsa2
  injection hsa2 with hsa2
  injection hsa2 with hsa3 hsa4
  subst hsa3; subst hsa4
  rw [Nat.zero_add] at hcell
  have hfI := hfz I.toNat hI1
  have hIn : I < (s.n : Int) := by omega
  have hSn : (s.n : Int) ≤ 9223372036854775807 := by omega
  have HSA := Lib.hid hsa
  have hsv : s.v = .slice (some ⟨b, 0, none⟩) s.n s.c := by rw [Sl.v, hsa]
  rw [hsv]
  have HSV := Lib.hid hsv
  obtain ⟨p0, p1⟩ := id hp6
  have n0 : b ≠ w.heap.size := by omega
  have n1 : b ≠ gp := by have : gp < w5.heap.size := World.block_lt_of_cell? _ _ hp5.1; omega
  have n2 : w.heap.size ≠ b := by omega
  have n3 : gp ≠ b := by omega
  obtain ⟨c0, c1, c2, c3, c4, c5, c6, c7, c8, c9⟩ := id hx6
  clear hq1 hq2 hq3 hq4 hfz hsa hsv ho hx5 hr5 hb5 hp5
  go_wp2_with fail
  have hWT := HWT.out s
  rw [HSV.out] at hWT
  refine (hWT _).mono ?_
  intro e w7 hr
  obtain ⟨rfl, hb'⟩ := hr.both
  have fs7 := (fs.put (x := x) HSA.out hI1).belowB hb' (by simp [World.setCell])
  have hr7 := blk_below (blk_far (g := b) (i := I.toNat) (u := .int .u64 (x : Int)) hr6 (by omega)) hb' (by have := lt_of_heap hr6; simp [World.setCell]; omega)
  have hb7 := bl_step (hb6.setCell (p := ⟨b, I.toNat, none⟩) (by show w.heap.size ≤ b; omega) (.int .u64 (x : Int))) hb'
  obtain ⟨u, hu⟩ : ∃ u, u = v.with P s := ⟨_, rfl⟩
  rw [← hu]
  have HU := Lib.hid hu
  simp only [Hv.cells, Sl.v]
  clear c0 c1 c2 c3 c4 c5 c6 c7 c8 c9 p0 p1 hcell hfI hr6 hb6 hx6 hp6 hr hb' hb hu hWT fs
  have fr := fun i => blk_frozen hr7 i
  have r0 : w7.cell? ⟨w.heap.size + 1, 0, none⟩ = some (.int .u64 0) := blk_cell hr7 0
  have r1 : w7.cell? ⟨w.heap.size + 1, 1, none⟩ = some (.int .i64 0) := blk_cell hr7 1
  have r2 : w7.cell? ⟨w.heap.size + 1, 2, none⟩ = some (.int .i64 0) := blk_cell hr7 2
  have r3 : w7.cell? ⟨w.heap.size + 1, 3, none⟩ = some (.bool false) := blk_cell hr7 3
  have r4 : w7.cell? ⟨w.heap.size + 1, 4, none⟩ = some (.int .i64 0) := blk_cell hr7 4
  have r5 : w7.cell? ⟨w.heap.size + 1, 5, none⟩ = some (.slice none 0 0) := blk_cell hr7 5
  have r6 : w7.cell? ⟨w.heap.size + 1, 6, none⟩ = some (.slice none 0 0) := blk_cell hr7 6
  have r7 : w7.cell? ⟨w.heap.size + 1, 7, none⟩ = some (.slice none 0 0) := blk_cell hr7 7
  have r8 : w7.cell? ⟨w.heap.size + 1, 8, none⟩ = some (.slice none 0 0) := blk_cell hr7 8
  have r9 : w7.cell? ⟨w.heap.size + 1, 9, none⟩ = some (.slice none 0 0) := blk_cell hr7 9
  have hgr7 : w.heap.size + 1 < w7.heap.size := lt_of_heap hr7
  clear hr7
  go_wp2
  refine bodyPost_ret (v := .tuple #[.agg #[.int .u64 u.base, .int .i64 u.cap, .int .i64 u.tu, .bool u.cyc, .int .i64 u.scan, .slice u.low.a u.low.n u.low.c, .slice u.high.a u.high.n u.high.c, .slice u.old.a u.old.n u.old.c, .slice u.far.a u.far.n u.far.c, .slice u.roots.a u.roots.n u.roots.c], .int .i64 0]) (by simp [results, Try.results42, go_sem, r0, r1, r2, r3, r4, r5, r6, r7, r8, r9]) rfl ?_
  refine ⟨u, rfl, ?_, ?_⟩
  · rw [HU.out]
    refine HWI.out _ s _ (HIS.out.below ?_) ?_
    · repeat (with_reducible refine Below.setCell ?_ (by simp) _)
      exact hb7
    · suffices hh : Fresh _ w5.heap.size w6.heap.size s (L.set I.toNat x) from hh.1
      repeat (with_reducible refine Fresh.far (g := w.heap.size + 1) ?_ (.inl (by omega)))
      exact fs7
  · repeat (with_reducible refine Below.setCell ?_ (by simp) _)
    exact hb7

theorem rwrite_any (v : Hv) (h : Hp) (y : Int) (x : Nat) (w : World) (his : v.Is w h) (wf : h.lay.Wf) (hy1 : 0 ≤ y) (hy2 : y < 18446744073709551616)
    (k1 : h.low.length ≤ 1000) (k2 : h.high.length ≤ 1000) (k3 : h.old.length ≤ 1000) (k4 : h.far.length ≤ 1000) :
    Calls Try.prog 42 #[.agg v.cells, .int .u64 y, .int .u64 (x : Int)] w (HeapRet (wrR h y x) (fndE h.lay y) w) := by
  by_cases hf : h.lay.Ok ∧ fndK h.lay y ≠ 0
  · refine rwrite_yes v h y x w his wf hy1 hy2 hf ?_
    have := fndK_le h.lay y
    have := hf.2
    obtain e | e | e | e : fndK h.lay y = 1 ∨ fndK h.lay y = 2 ∨ fndK h.lay y = 3 ∨ fndK h.lay y = 4 := by omega
    · rw [e]; exact k1
    · rw [e]; exact k2
    · rw [e]; exact k3
    · rw [e]; exact k4
  · exact rwrite_no v h y x w his wf hy1 hy2 hf
end Go.Proofs.Ytappejihclmjmaa
