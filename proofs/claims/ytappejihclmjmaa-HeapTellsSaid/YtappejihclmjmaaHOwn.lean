/-
  HeapOwn: the walk of the law. Conditions: integers that fit.
-/
import Derived.Test.YtappejihclmjmaaHParts
namespace Go.Proofs.Ytappejihclmjmaa
open Go.RowKit
attribute [local go_sem ↓] Go.wp_at_zero Go.wp_at_succ

/-- A block's first cells. -/
def RowAt (w : World) (g : Nat) (l : List Value) : Prop := ∀ i u, l[i]? = some u → w.cell? ⟨g, i, none⟩ = some u
theorem RowAt.below {w w' : World} {g : Nat} {l : List Value} (h : RowAt w g l) (hb : Below w.heap.size w w') : RowAt w' g l := fun i u hu =>
  (hb.cell (p := ⟨g, i, none⟩) (World.block_lt_of_cell? w _ (h i u hu))).trans (h i u hu)
theorem RowAt.lit (w : World) (xs : Array Value) (t : TypeId) : RowAt (w.alloc (.cells xs t)) w.heap.size xs.toList := fun i u hu => by
  rw [cell_of_row _ _ _ _ _ _ (heap_alloc_new w _)]
  simpa using hu

/-- A slice of n words that may be written, in blocks from lo on and below hi. -/
def PutOk (w : World) (s : Sl) (n lo hi : Nat) : Prop :=
  s.n = n ∧ n ≤ s.c ∧ s.c ≤ 9223372036854775807 ∧ (0 < n → ∃ b, s.a = some ⟨b, 0, none⟩ ∧ lo ≤ b ∧ b < hi ∧ b < w.heap.size ∧ ∀ i, i < n → (∃ u, w.cell? ⟨b, i, none⟩ = some u) ∧ w.frozen? ⟨b, i, none⟩ = false)
theorem PutOk.below {w w' : World} {s : Sl} {n lo hi : Nat} (h : PutOk w s n lo hi) (hb : Below w.heap.size w w') : PutOk w' s n lo hi := by
  obtain ⟨h1, h2, h3, h4⟩ := h
  refine ⟨h1, h2, h3, fun h0 => ?_⟩
  obtain ⟨b, e, a1, a2, a3, h5⟩ := h4 h0
  refine ⟨b, e, a1, a2, Nat.lt_of_lt_of_le a3 hb.size, fun i hi => ?_⟩
  obtain ⟨⟨u, hu⟩, hf⟩ := h5 i hi
  exact ⟨⟨u, (hb.cell (p := ⟨b, i, none⟩) a3).trans hu⟩, (hb.frozen (p := ⟨b, i, none⟩) a3).trans hf⟩
theorem PutOk.set {w : World} {s : Sl} {n lo hi : Nat} (h : PutOk w s n lo hi) (p : Addr) (v : Value) : PutOk (w.setCell p v) s n lo hi := by
  obtain ⟨h1, h2, h3, h4⟩ := h
  refine ⟨h1, h2, h3, fun h0 => ?_⟩
  obtain ⟨b, e, a1, a2, a3, h5⟩ := h4 h0
  refine ⟨b, e, a1, a2, by simpa [World.setCell] using a3, fun i hi => ?_⟩
  obtain ⟨⟨u, hu⟩, hf⟩ := h5 i hi
  refine ⟨?_, by rw [World.frozen?_setCell]; exact hf⟩
  by_cases ep : p = ⟨b, i, none⟩
  · subst ep; exact ⟨v, World.cell?_setCell_same' w ⟨b, i, none⟩ v (by rw [hu]; rfl)⟩
  · exact ⟨u, (World.cell?_setCell_other w p ⟨b, i, none⟩ v ep).trans hu⟩
theorem PutOk.of_fresh {w : World} {B B2 lo hi : Nat} {s : Sl} {l : List Nat} (h : Fresh w B B2 s l) (hB : lo ≤ B) (hB2 : B2 ≤ hi) (hw : B2 ≤ w.heap.size) : PutOk w s l.length lo hi := by
  obtain ⟨⟨h1, h2, h3, h4⟩, h5⟩ := h
  refine ⟨h1.symm, by omega, h3, fun h0 => ?_⟩
  obtain ⟨b, e, a1, a2, hf⟩ := h5 h0
  refine ⟨b, e, by omega, by omega, by omega, fun i hi => ⟨?_, hf i hi⟩⟩
  obtain ⟨b2, off, e2, _, hc⟩ := h4.us_at hi
  rw [e] at e2
  injection e2 with e2
  injection e2 with e3 e4
  subst e3; subst e4
  rw [Nat.zero_add] at hc
  exact ⟨_, hc⟩
theorem HeapAt.set {w : World} {g : Nat} {v : Hv} (h : HeapAt w g v) {p : Addr} (hp : g ≠ p.block) (u : Value) : HeapAt (w.setCell p u) g v := by
  obtain ⟨c0, c1, c2, c3, c4, c5, c6, c7, c8, c9⟩ := h
  have e : ∀ i, (w.setCell p u).cell? ⟨g, i, none⟩ = w.cell? ⟨g, i, none⟩ := fun i => World.cell?_setCell_other w p ⟨g, i, none⟩ u (fun e => by subst e; exact hp rfl)
  exact ⟨(e 0).trans c0, (e 1).trans c1, (e 2).trans c2, (e 3).trans c3, (e 4).trans c4, (e 5).trans c5, (e 6).trans c6, (e 7).trans c7, (e 8).trans c8, (e 9).trans c9⟩
def HORel (vo : Hv) (H : Hp) (lo hi go : Nat) (W : World) (p : Value) (wr : World) : Prop :=
  ∃ k : Nat, 1 ≤ k ∧ k ≤ 5 ∧ p = .int .i64 (k : Int) ∧ Below W.heap.size W wr ∧ HeapAt wr go vo ∧ ∀ q : Nat, 1 ≤ q → q ≤ 4 → PutOk wr (vo.part (q : Int)) (H.part q).length lo hi

set_option maxRecDepth 100000 in
set_option maxHeartbeats 4000000 in
theorem hown_walk (b n0 n1 n2 n3 n4 n5 : Int) (A : Option Addr) (ws : List Nat) (cap : Nat) (at0 : Int) (w : World) (hb : 0 ≤ b ∧ b < 18446744073709551616) (g0 : -9223372036854775808 ≤ n0 ∧ n0 ≤ 9223372036854775807) (g1 : -9223372036854775808 ≤ n1 ∧ n1 ≤ 9223372036854775807) (g2 : -9223372036854775808 ≤ n2 ∧ n2 ≤ 9223372036854775807) (g3 : -9223372036854775808 ≤ n3 ∧ n3 ≤ 9223372036854775807) (g4 : -9223372036854775808 ≤ n4 ∧ n4 ≤ 9223372036854775807) (g5 : -9223372036854775808 ≤ n5 ∧ n5 ≤ 9223372036854775807)
    (hr : Rd w A (us ws)) (hc : ws.length ≤ cap) (hm : cap ≤ 9223372036854775807) (hv : ∀ x ∈ ws, x < 18446744073709551616) (hat : -9223372036854775808 ≤ at0 ∧ at0 ≤ 9223372036854775807) :
    Calls Try.prog 14 #[.int .u64 b, .agg #[.int .i64 n0, .int .i64 n1, .int .i64 n2, .int .i64 n3, .int .i64 n4, .int .i64 n5], .slice A ws.length cap, .int .i64 at0] w (RetTrue w) := by
  have HHP := Lib.hid fun W (a : Rd W A (us ws)) => heap_any b n0 n1 n2 n3 n4 n5 A ws cap W hb g0 g1 g2 g3 g4 g5 a (by omega) hv
  have hok := layOf_ok b n0 n1 n2 n3 n4 n5
  obtain ⟨l, hl⟩ : ∃ l, l = layOf b n0 n1 n2 n3 n4 n5 := ⟨_, rfl⟩
  rw [← hl] at HHP hok
  clear hl hb g0 g1 g2 g3 g4 g5
  obtain ⟨hok, hcap⟩ := hok
  have hll := hpL_lay l ws hok
  rw [← hll] at hok hcap
  have hrl : (hpL l ws).roots.length = 3 := smOf_len _ _ _
  obtain ⟨H, hH⟩ : ∃ H, H = hpL l ws := ⟨_, rfl⟩
  rw [← hH] at HHP hok hcap hrl
  have HRD := Lib.hid hr
  clear hH hll l hr hv
  have q1 : 1 ≤ H.base := hok.1
  have q2 : 0 ≤ H.cap := hok.2.1
  have q3 : H.cap ≤ 40 := hcap
  have q4 : H.base + 2 * H.cap ≤ 9223372036854775808 := hok.2.2.2.1
  have q5 : (H.low.length : Int) + H.high.length ≤ H.cap ∧ (H.old.length : Int) + H.far.length ≤ H.cap := by
    obtain ⟨_, _, _, _, _, _, _, c, _, _, f⟩ := hok
    exact ⟨c, f⟩
  have k1 : H.low.length ≤ 40 := by omega
  have k2 : H.high.length ≤ 40 := by omega
  have k3 : H.old.length ≤ 40 := by omega
  have k4 : H.far.length ≤ 40 := by omega
  have k5 : H.roots.length ≤ 40 := by omega
  clear q5 hrl hcap
  have HOK := Lib.hid hok
  clear hok
  have hok := HOK.out
  have HAD := Lib.hid fun (p i : Int) (W : World) (a : 1 ≤ p ∧ p ≤ 4) (b : 0 ≤ i ∧ i ≤ 1000) => address_any H.lay p i W (ok_wf hok) (by omega) (by omega)
  have HRP := Lib.hid (rd_part H hok)
  have HPL := Lib.hid fun p => part_len H p k1 k2 k3 k4
  have HWR := Lib.hid fun (v : Hv) (y : Int) (W : World) (a : v.Is W H) (y0 : 0 ≤ y) (y1 : y < 18446744073709551616) => write_any v H y 54321 W a (ok_wf hok) y0 y1 (by omega) (by omega) (by omega) (by omega) (by omega)
  have HPK := Lib.hid fun (n : Int) (W : World) (a : 1 ≤ n) (b : n ≤ 1000) => pick10_any at0 n W hat.1 hat.2 a (by omega)
  have HPB := Lib.hid fun (n : Int) (a : 1 ≤ n) => pickI_b at0 n a
  simp only [Lay.cells] at HAD
  rw [show ((54321 : Nat) : Int) = 54321 from rfl] at HWR
  clear hok
  go_enter Try.func14, Try.ntmps14
  go_wp2_with fail
  refine (awake10_any _).mono ?_
  intro e w1 hr1
  obtain ⟨rfl, x, rfl⟩ := hr1.later
  have hb1 : Below w.heap.size w x.w := bl_step (bl_alloc (bl_refl w) _) x.below
  have hrow1 := (RowAt.lit w #[.int .i64 n0, .int .i64 n1, .int .i64 n2, .int .i64 n3, .int .i64 n4, .int .i64 n5] 25).below x.below
  clear hr1
  go_wp2_with fail
  refine (HHP.out _ (HRD.out.below hb1)).mono ?_
  intro e w2 hr2
  obtain ⟨u, rfl, hu2, hb2⟩ := hr2
  obtain ⟨ub, uc, ut, uy, us_, low, high, old, far, roots⟩ := u
  obtain ⟨e1, e2, e3, e4, e5⟩ := hu2.1
  simp only at e1 e2 e3 e4 e5
  subst e1 e2 e3 e4 e5
  have hg2 := HeapAt.lit w2 ⟨H.base, H.cap, H.to, H.cyc, H.scan, low, high, old, far, roots⟩ 50
  have hu2 := hu2.below (bl_alloc (bl_refl w2) (.cells (Hv.cells ⟨H.base, H.cap, H.to, H.cyc, H.scan, low, high, old, far, roots⟩) 50))
  have hbw2 := bl_alloc (bl_step hb1 hb2) (.cells (Hv.cells ⟨H.base, H.cap, H.to, H.cyc, H.scan, low, high, old, far, roots⟩) 50)
  have hrow2 := hrow1.below hb2
  simp only [Hv.cells, Sl.v] at hg2 hu2 hbw2 ⊢
  clear hb2 hb1 hrow1
  have d0 := hrow2 0 _ rfl
  have d1 := hrow2 1 _ rfl
  have d2 := hrow2 2 _ rfl
  have d3 := hrow2 3 _ rfl
  have d4 := hrow2 4 _ rfl
  have d5 := hrow2 5 _ rfl
  have zb : w.heap.size < w2.heap.size := World.block_lt_of_cell? _ _ d0
  go_wp2_with fail
  clear d0 d1 d2 d3 d4 d5 zb hrow2
  obtain ⟨W2, hW2⟩ : ∃ W, W = w2.alloc (.cells #[.int .u64 H.base, .int .i64 H.cap, .int .i64 H.to, .bool H.cyc, .int .i64 H.scan, .slice low.a low.n low.c, .slice high.a high.n high.c, .slice old.a old.n old.c, .slice far.a far.n far.c, .slice roots.a roots.n roots.c] 50) := ⟨_, rfl⟩
  rw [← hW2] at hg2 hu2 hbw2 ⊢
  obtain ⟨g, hg⟩ : ∃ g, g = w2.heap.size := ⟨_, rfl⟩
  rw [← hg] at hg2 ⊢
  clear hW2 hg x
  refine (HHP.out _ (HRD.out.below hbw2)).mono ?_
  intro e w3 hr3
  obtain ⟨u, rfl, hv3, hb3⟩ := hr3
  obtain ⟨ub, uc, ut, uy, us_, low2, high2, old2, far2, roots2⟩ := u
  obtain ⟨e1, e2, e3, e4, e5⟩ := hv3.1
  simp only at e1 e2 e3 e4 e5
  subst e1 e2 e3 e4 e5
  have hh3 := HeapAt.lit w3 ⟨H.base, H.cap, H.to, H.cyc, H.scan, low2, high2, old2, far2, roots2⟩ 50
  have hv3 := hv3.below (bl_alloc (bl_refl w3) (.cells (Hv.cells ⟨H.base, H.cap, H.to, H.cyc, H.scan, low2, high2, old2, far2, roots2⟩) 50))
  have hg3 := (hg2.below hb3).alloc (.cells (Hv.cells ⟨H.base, H.cap, H.to, H.cyc, H.scan, low2, high2, old2, far2, roots2⟩) 50)
  have hu3 := (hu2.below hb3).below (bl_alloc (bl_refl w3) (.cells (Hv.cells ⟨H.base, H.cap, H.to, H.cyc, H.scan, low2, high2, old2, far2, roots2⟩) 50))
  have hbw3 := bl_alloc (bl_step hbw2 hb3) (.cells (Hv.cells ⟨H.base, H.cap, H.to, H.cyc, H.scan, low2, high2, old2, far2, roots2⟩) 50)
  have hgw := hg2.below hb3
  simp only [Hv.cells, Sl.v] at hh3 hv3 hg3 hu3 hbw3 ⊢
  obtain ⟨c0, c1, c2, c3, c4, c5, c6, c7, c8, c9⟩ := id hgw
  simp only at c0 c1 c2 c3 c4 c5 c6 c7 c8 c9
  have zg : g < w3.heap.size := World.block_lt_of_cell? _ _ c0
  clear hb3 hg2 hu2 hbw2 hgw
  go_wp2_with fail
  clear c0 c1 c2 c3 c4 c5 c6 c7 c8 c9 zg HHP HRD
  obtain ⟨W3, hW3⟩ : ∃ W, W = w3.alloc (.cells #[.int .u64 H.base, .int .i64 H.cap, .int .i64 H.to, .bool H.cyc, .int .i64 H.scan, .slice low2.a low2.n low2.c, .slice high2.a high2.n high2.c, .slice old2.a old2.n old2.c, .slice far2.a far2.n far2.c, .slice roots2.a roots2.n roots2.c] 50) := ⟨_, rfl⟩
  rw [← hW3] at hh3 hv3 hg3 hu3 hbw3 ⊢
  obtain ⟨g2, hg⟩ : ∃ g, g = w3.heap.size := ⟨_, rfl⟩
  rw [← hg] at hh3 ⊢
  clear hW3 hg
  have HO := own_any ⟨H.base, H.cap, H.to, H.cyc, H.scan, low, high, old, far, roots⟩ H W3 hu3 (by omega) (by omega) (by omega) (by omega) (by omega)
  simp only [Hv.cells, Sl.v] at HO
  refine HO.mono ?_
  intro e w4 hr4
  obtain ⟨s1, s2, s3, s4, s5, B1, B2, B3, B4, B5, rfl, i1, i2, i3, i4, i5, i6, f1, f2, f3, f4, f5, hb4⟩ := hr4
  have ho4 := HeapAt.lit w4 ⟨H.base, H.cap, H.to, H.cyc, H.scan, s1, s2, s3, s4, s5⟩ 50
  have hi4 : Hv.Is ⟨H.base, H.cap, H.to, H.cyc, H.scan, s1, s2, s3, s4, s5⟩ w4 H := ⟨⟨rfl, rfl, rfl, rfl, rfl⟩, f1.1, f2.1, f3.1, f4.1, f5.1⟩
  have hi4 := hi4.below (bl_alloc (bl_refl w4) (.cells (Hv.cells ⟨H.base, H.cap, H.to, H.cyc, H.scan, s1, s2, s3, s4, s5⟩) 50))
  have hp4 : ∀ q : Nat, 1 ≤ q → q ≤ 4 → PutOk w4 (Hv.part ⟨H.base, H.cap, H.to, H.cyc, H.scan, s1, s2, s3, s4, s5⟩ (q : Int)) (H.part q).length W3.heap.size w4.heap.size := fun q a b => by
    obtain rfl | rfl | rfl | rfl : q = 1 ∨ q = 2 ∨ q = 3 ∨ q = 4 := by omega
    · exact PutOk.of_fresh f1 (by omega) (by omega) (by omega)
    · exact PutOk.of_fresh f2 (by omega) (by omega) (by omega)
    · exact PutOk.of_fresh f3 (by omega) (by omega) (by omega)
    · exact PutOk.of_fresh f4 (by omega) (by omega) (by omega)
  have hp4 := fun q a b => (hp4 q a b).below (bl_alloc (bl_refl w4) (.cells (Hv.cells ⟨H.base, H.cap, H.to, H.cyc, H.scan, s1, s2, s3, s4, s5⟩) 50))
  have hb4' := bl_alloc hb4 (.cells (Hv.cells ⟨H.base, H.cap, H.to, H.cyc, H.scan, s1, s2, s3, s4, s5⟩) 50)
  have hhw := hh3.below hb4
  simp only [Hv.cells, Sl.v] at ho4 hi4 hp4 hb4' ⊢
  obtain ⟨c0, c1, c2, c3, c4, c5, c6, c7, c8, c9⟩ := id hhw
  simp only at c0 c1 c2 c3 c4 c5 c6 c7 c8 c9
  have zg : g2 < w4.heap.size := World.block_lt_of_cell? _ _ c0
  have zo : W3.heap.size ≤ w4.heap.size := hb4.size
  clear hb4 f1 f2 f3 f4 f5 i1 i2 i3 i4 i5 i6 HO hhw
  go_wp2_with fail
  clear c0 c1 c2 c3 c4 c5 c6 c7 c8 c9 zg
  obtain ⟨W4, hW4⟩ : ∃ W, W = w4.alloc (.cells #[.int .u64 H.base, .int .i64 H.cap, .int .i64 H.to, .bool H.cyc, .int .i64 H.scan, .slice s1.a s1.n s1.c, .slice s2.a s2.n s2.c, .slice s3.a s3.n s3.c, .slice s4.a s4.n s4.c, .slice s5.a s5.n s5.c] 50) := ⟨_, rfl⟩
  rw [← hW4] at ho4 hi4 hp4 hb4' ⊢
  obtain ⟨go, hgo⟩ : ∃ g, g = w4.heap.size := ⟨_, rfl⟩
  rw [← hgo] at ho4 hp4 zo ⊢
  clear hW4 hgo
  have HS := same_any ⟨H.base, H.cap, H.to, H.cyc, H.scan, s1, s2, s3, s4, s5⟩ ⟨H.base, H.cap, H.to, H.cyc, H.scan, low2, high2, old2, far2, roots2⟩ H W4 hi4 (hv3.below hb4')
  simp only [Hv.cells, Sl.v] at HS
  refine HS.mono ?_
  intro e w5 hr
  obtain ⟨rfl, hb5⟩ := hr.both
  have ho5 := ho4.below hb5
  have hp5 := fun q a b => (hp4 q a b).below hb5
  have hb5 := bl_step hb4' hb5
  clear hr hi4 HS ho4 hp4 hb4'
  have HPO := Lib.hid fun (p : Int) (W : World) (a : 1 ≤ p) (b : p ≤ 4) => part_any ⟨H.base, H.cap, H.to, H.cyc, H.scan, s1, s2, s3, s4, s5⟩ p W a b
  have HPH := Lib.hid fun (p : Int) (W : World) (a : 1 ≤ p) (b : p ≤ 4) => part_any ⟨H.base, H.cap, H.to, H.cyc, H.scan, low, high, old, far, roots⟩ p W a b
  have HL := Lib.hid fun (W : World) => hlayout_any ⟨H.base, H.cap, H.to, H.cyc, H.scan, low, high, old, far, roots⟩ W
  rw [hu3.lay] at HL
  have HW2 := Lib.hid fun y W a => HWR.out ⟨H.base, H.cap, H.to, H.cyc, H.scan, low, high, old, far, roots⟩ y W a
  have HSM := Lib.hid fun (W : World) a b => same_any ⟨H.base, H.cap, H.to, H.cyc, H.scan, low, high, old, far, roots⟩ ⟨H.base, H.cap, H.to, H.cyc, H.scan, low2, high2, old2, far2, roots2⟩ H W a b
  simp only [Hv.cells, Sl.v, Lay.cells] at HPO HPH HL HW2 HSM
  clear HWR
  have HP5 := Lib.hid hp5
  clear hp5
  go_wp2_with fail
  go_loopw [13] (fun p wr => HORel ⟨H.base, H.cap, H.to, H.cyc, H.scan, s1, s2, s3, s4, s5⟩ H W3.heap.size go go W3 p wr) (fun p _ => (5 - intOf p).toNat)
  case atStart => exact ⟨1, by omega, by omega, rfl, hb5, ho5, HP5.out⟩
  case round =>
    obtain ⟨k, hk1, hk5, rfl, hb, hog, hpp⟩ := hrel
    obtain ⟨w6, rfl⟩ : ∃ w6 : World, w6 = wr := ⟨_, rfl⟩
    clear HP5 ho5 hb5
    by_cases hlt : k ≤ 4
    · have hput := hpp k hk1 hlt
      have HPP := Lib.hid hpp
      have hsl := (hu3.below hb).part k hk1 hlt
      have hpl := HPL.out k
      have hpo := HPO.out (k : Int)
      have hph := HPH.out (k : Int)
      have hrp := HRP.out (k : Int)
      rw [Int.toNat_natCast] at hrp
      obtain ⟨T, hT⟩ : ∃ S, S = Hv.part ⟨H.base, H.cap, H.to, H.cyc, H.scan, low, high, old, far, roots⟩ (k : Int) := ⟨_, rfl⟩
      rw [← hT] at hsl hph
      obtain ⟨S, hS⟩ : ∃ S, S = Hv.part ⟨H.base, H.cap, H.to, H.cyc, H.scan, s1, s2, s3, s4, s5⟩ (k : Int) := ⟨_, rfl⟩
      rw [← hS] at hput hpo
      obtain ⟨n, hn⟩ : ∃ n, n = (H.part k).length := ⟨_, rfl⟩
      have tn : T.n = n := by rw [hn]; exact hsl.1.symm
      rw [← hn] at hput hpl hrp
      obtain ⟨sa, sn, sc⟩ := S
      obtain ⟨ta, tn', tc⟩ := T
      obtain ⟨p1, p2, p3, p4⟩ := hput
      simp only at p1 p2 p3 p4 tn
      subst p1
      subst tn
      have HRP2 := Lib.hid fun i a b c d => (show _ ∧ _ ∧ _ ∧ _ from ⟨(hrp i a b c d).1, (hrp i a b c d).2.1, (hrp i a b c d).2.2.1, (hrp i a b c d).2.2.2.1⟩)
      have HPO2 := Lib.hid hpo
      have HPH2 := Lib.hid hph
      clear hpo hph hrp hsl hT hS hn hpp
      obtain ⟨c0, c1, c2, c3, c4, c5, c6, c7, c8, c9⟩ := id hog
      simp only at c0 c1 c2 c3 c4 c5 c6 c7 c8 c9
      go_wp2_with fail
      refine (HPO2.out _ (by omega) (by omega)).mono ?_
      intro e w7 hr
      obtain ⟨rfl, hb7⟩ := hr.both
      have ho7 := hog.below hb7
      have hp7 := Lib.hid fun q a b => (HPP.out q a b).below hb7
      have hbw7 := bl_step hb hb7
      clear c0 c1 c2 c3 c4 c5 c6 c7 c8 c9 hr HPP hog hb
      by_cases hz : tn' = 0
      · subst hz
        have hgw := hg3.below hbw7
        clear p4 hb7
        obtain ⟨c0, c1, c2, c3, c4, c5, c6, c7, c8, c9⟩ := id hgw
        simp only at c0 c1 c2 c3 c4 c5 c6 c7 c8 c9
        go_wp2_with fail
        refine (HPH2.out _ (by omega) (by omega)).mono ?_
        intro e w8 hr
        obtain ⟨rfl, hb8⟩ := hr.both
        have ho8 := ho7.below hb8
        have hp8 := fun q a b => (hp7.out q a b).below hb8
        have hbw8 := bl_step hbw7 hb8
        have HP8 := Lib.hid hp8
        clear c0 c1 c2 c3 c4 c5 c6 c7 c8 c9 hr hp8
        go_wp2
        exact ⟨⟨k + 1, by omega, by omega, by go_num, hbw8, ho8, HP8.out⟩, by simp [intOf]; omega⟩
      · have hz0 : 0 < tn' := by omega
        clear hz
        obtain ⟨b', hsa, a1, a2, a3, a4⟩ := p4 hz0
        have a3' : b' < w7.heap.size := Nat.lt_of_lt_of_le a3 hb7.size
        have hpi := HPB.out (tn' : Int) (by omega)
        have hpk := HPK.out (tn' : Int)
        obtain ⟨i, hi⟩ : ∃ i : Nat, (i : Int) = pickI at0 (tn' : Int) := ⟨(pickI at0 (tn' : Int)).toNat, by omega⟩
        rw [← hi] at hpi hpk
        clear hi
        have hil : i < tn' := by omega
        obtain ⟨⟨uu, huu⟩, hff⟩ := a4 i hil
        have hu7 := (hb7.cell (p := ⟨b', i, none⟩) a3).trans huu
        have hf7 := (hb7.frozen (p := ⟨b', i, none⟩) a3).trans hff
        have HPK2 := Lib.hid hpk
        clear hpk hpi p4 a4 huu hff a3 hb7
        subst hsa
        obtain ⟨r1, r2, r3, r4⟩ := HRP2.out (i : Int) (by omega) (by omega) (by omega) (by omega)
        have ha := fun W => HAD.out (k : Int) (i : Int) W (by omega) (by omega)
        have hww := fun W a => HW2.out (adrA H.lay (k : Int) (i : Int)) W a (by omega) (by omega)
        rw [r4] at hww
        rw [r1] at ha
        obtain ⟨Y, hY⟩ : ∃ Y, Y = adrA H.lay (k : Int) (i : Int) := ⟨_, rfl⟩
        rw [← hY] at ha hww r2 r3
        have ha' := Lib.hid ha
        have hww' := Lib.hid hww
        clear ha hww hY r1 r4
        go_wp2_with fail
        have hgw := hg3.below hbw7
        obtain ⟨c0, c1, c2, c3, c4, c5, c6, c7, c8, c9⟩ := id hgw
        simp only at c0 c1 c2 c3 c4 c5 c6 c7 c8 c9
        have zg : g < W3.heap.size := World.block_lt_of_cell? _ _ hg3.1
        have nbg : b' ≠ g := by omega
        have ngb : g ≠ b' := by omega
        refine (HPK2.out _ (by omega) (by omega)).mono ?_
        rintro e w8 ⟨rfl, rfl⟩
        go_wp2_with fail
        have ho8 := ho7.set (p := ⟨b', i, none⟩) (by simp only; omega) (.int .u64 12345)
        have hp8 := Lib.hid fun q a b => (hp7.out q a b).set ⟨b', i, none⟩ (.int .u64 12345)
        have hbw8 := hbw7.setCell (p := ⟨b', i, none⟩) a1 (.int .u64 12345)
        clear c0 c1 c2 c3 c4 c5 c6 c7 c8 c9 hgw hu7 hf7 ho7 hp7 hbw7 a3'
        obtain ⟨W8, hW8⟩ : ∃ W, W = w7.setCell ⟨b', i, none⟩ (.int .u64 12345) := ⟨_, rfl⟩
        rw [← hW8] at ho8 hp8 hbw8 ⊢
        clear hW8
        refine (HPH2.out _ (by omega) (by omega)).mono ?_
        intro e w9 hr
        obtain ⟨rfl, hb9⟩ := hr.both
        have ho9 := ho8.below hb9
        have hp9 := Lib.hid fun q a b => (hp8.out q a b).below hb9
        have hbw9 := bl_step hbw8 hb9
        have hgw := hg3.below hbw9
        clear hr hb9 ho8 hp8 hbw8
        obtain ⟨c0, c1, c2, c3, c4, c5, c6, c7, c8, c9⟩ := id hgw
        simp only at c0 c1 c2 c3 c4 c5 c6 c7 c8 c9
        go_wp2_with fail
        refine (HL.out _).mono ?_
        intro e w10 hr
        obtain ⟨rfl, hb10⟩ := hr.both
        have ho10 := ho9.below hb10
        have hp10 := Lib.hid fun q a b => (hp9.out q a b).below hb10
        have hbw10 := bl_step hbw9 hb10
        have hgw := hgw.below hb10
        clear hr hb10 ho9 hp9 hbw9 c0 c1 c2 c3 c4 c5 c6 c7 c8 c9
        go_wp2_with fail
        refine (HPK2.out _ (by omega) (by omega)).mono ?_
        rintro e w11 ⟨rfl, rfl⟩
        go_wp2_with fail
        refine (ha'.out _).mono ?_
        intro e w11 hr
        obtain ⟨rfl, hb11⟩ := hr.both
        have ho11 := ho10.below hb11
        have hp11 := Lib.hid fun q a b => (hp10.out q a b).below hb11
        have hbw11 := bl_step hbw10 hb11
        have hgw := hgw.below hb11
        clear hr hb11 ho10 hp10 hbw10
        obtain ⟨c0, c1, c2, c3, c4, c5, c6, c7, c8, c9⟩ := id hgw
        simp only at c0 c1 c2 c3 c4 c5 c6 c7 c8 c9
        go_wp2_with fail
        refine (hww'.out _ (hu3.below hbw11)).mono ?_
        intro e w12 hr
        obtain ⟨u12, rfl, _, hb12⟩ := hr
        have ho12 := (ho11.below hb12).alloc (.cells u12.cells 50)
        have hp12 := Lib.hid fun q a b => ((hp11.out q a b).below hb12).below (bl_alloc (bl_refl w12) (.cells u12.cells 50))
        have hbw12 := bl_alloc (bl_step hbw11 hb12) (.cells u12.cells 50)
        simp only [Hv.cells, Sl.v] at hp12 hbw12 ⊢
        unfold HeapAt at ho12
        simp only [Hv.cells, Sl.v] at ho12
        have HO12 := Lib.hid ho12
        clear hb12 ho11 hp11 hbw11 hgw ho12 c0 c1 c2 c3 c4 c5 c6 c7 c8 c9
        go_wp2
        exact ⟨⟨k + 1, by omega, by omega, by go_num, hbw12, HO12.out, hp12.out⟩, by simp [intOf]; omega⟩
    · obtain rfl : k = 5 := by omega
      have hgw := hg3.below hb
      have hhw := hh3.below hb
      obtain ⟨c0, c1, c2, c3, c4, c5, c6, c7, c8, c9⟩ := id hgw
      simp only at c0 c1 c2 c3 c4 c5 c6 c7 c8 c9
      obtain ⟨d0, d1, d2, d3, d4, d5, d6, d7, d8, d9⟩ := id hhw
      simp only at d0 d1 d2 d3 d4 d5 d6 d7 d8 d9
      clear hpp hog
      go_wp2_with fail
      refine (HSM.out _ (hu3.below hb) (hv3.below hb)).mono ?_
      intro e w7 hr
      obtain ⟨rfl, hb7⟩ := hr.both
      go_wp2
      go_ret
      exact ⟨rfl, bl_step (bl_step hbw3 hb) hb7⟩
end Go.Proofs.Ytappejihclmjmaa
