/-
  HeapTells: the walk of the law. Conditions: integers that fit; a value that reads as a heap.
-/
import Derived.Test.YtappejihclmjmaaHOwn
import Derived.Deep.RegionHeld3
namespace Go.Proofs.Ytappejihclmjmaa
open Go.RowKit
attribute [local go_sem ↓] Go.wp_at_zero Go.wp_at_succ

/-- A slice cut short. -/
def Sl.cut (s : Sl) (m : Nat) : Sl := ⟨s.a, min s.n m, s.c⟩
theorem Sl.Is.cut {s : Sl} {w : World} {l : List Nat} (h : s.Is w l) (m : Nat) : (s.cut m).Is w (l.take m) := by
  obtain ⟨h1, h2, h3, h4⟩ := h
  refine ⟨?_, ?_, h3, h4.take m⟩
  · rw [List.length_take, h1]; simp only [Sl.cut]; omega
  · simp only [Sl.cut]; omega
theorem slice_to (t e : TypeId) (i : TypeInfo) (ht : Try.prog.underlying t = some (.slice (Try.prog.elem t))) (he : Try.prog.elem t = e) (hi : Try.prog.info? e = some i) (h1 : i.size = 1) (a : Option Addr) (n c m : Nat) (hm : m ≤ n) (hn : n ≤ c) :
    ∀ W, (Instr.slice t (.slice a n c) none (some (.int .i64 (m : Int))) none).run Try.prog W = .ok (.slice a m c) W := fun W => by
  rw [run_slice_h W t a n c ht .i64 (m : Int) (by omega) (by omega)]
  simp [sizeOf, typeInfo, he, hi, h1, Result.andThen, sliced]
  cases a <;> simp [Addr.add]
/-- A heap is handed back, cell by cell. -/
def HvRetX (h : Hp) (w : World) (en : Ending) (w' : World) : Prop := ∃ u : Hv, en = .returned (.agg #[.int .u64 u.base, .int .i64 u.cap, .int .i64 u.tu, .bool u.cyc, .int .i64 u.scan, .slice u.low.a u.low.n u.low.c, .slice u.high.a u.high.n u.high.c, .slice u.old.a u.old.n u.old.c, .slice u.far.a u.far.n u.far.c, .slice u.roots.a u.roots.n u.roots.c]) ∧ u.Is w' h ∧ Below w.heap.size w w'
theorem HvRet.x {h : Hp} {w w' : World} {en : Ending} (k : HvRet h w en w') : HvRetX h w en w' := k
/-- A heap's cells lie in block g, from o on. -/
def HeapOff (w : World) (g o : Nat) (v : Hv) : Prop :=
  w.cell? ⟨g, o, none⟩ = some (.int .u64 v.base) ∧ w.cell? ⟨g, o + 1, none⟩ = some (.int .i64 v.cap) ∧ w.cell? ⟨g, o + 2, none⟩ = some (.int .i64 v.tu) ∧ w.cell? ⟨g, o + 3, none⟩ = some (.bool v.cyc) ∧ w.cell? ⟨g, o + 4, none⟩ = some (.int .i64 v.scan) ∧
  w.cell? ⟨g, o + 5, none⟩ = some (.slice v.low.a v.low.n v.low.c) ∧ w.cell? ⟨g, o + 6, none⟩ = some (.slice v.high.a v.high.n v.high.c) ∧ w.cell? ⟨g, o + 7, none⟩ = some (.slice v.old.a v.old.n v.old.c) ∧ w.cell? ⟨g, o + 8, none⟩ = some (.slice v.far.a v.far.n v.far.c) ∧ w.cell? ⟨g, o + 9, none⟩ = some (.slice v.roots.a v.roots.n v.roots.c)
theorem HeapOff.below {w w' : World} {g o : Nat} {v : Hv} (h : HeapOff w g o v) (hb : Below w.heap.size w w') : HeapOff w' g o v := by
  obtain ⟨c0, c1, c2, c3, c4, c5, c6, c7, c8, c9⟩ := h
  exact ⟨cells_keep2 c0 hb, cells_keep2 c1 hb, cells_keep2 c2 hb, cells_keep2 c3 hb, cells_keep2 c4 hb, cells_keep2 c5 hb, cells_keep2 c6 hb, cells_keep2 c7 hb, cells_keep2 c8 hb, cells_keep2 c9 hb⟩
def OwnX (h : Hp) (w : World) (en : Ending) (w' : World) : Prop := ∃ u : Hv, en = .returned (.agg #[.int .u64 u.base, .int .i64 u.cap, .int .i64 u.tu, .bool u.cyc, .int .i64 u.scan, .slice u.low.a u.low.n u.low.c, .slice u.high.a u.high.n u.high.c, .slice u.old.a u.old.n u.old.c, .slice u.far.a u.far.n u.far.c, .slice u.roots.a u.roots.n u.roots.c]) ∧ u.Is w' h ∧ Below w.heap.size w w'
theorem OwnRet.x {v : Hv} {h : Hp} {w w' : World} {en : Ending} (his : v.Is w h) (k : OwnRet v h w en w') : OwnX h w en w' := by
  obtain ⟨s1, s2, s3, s4, s5, B1, B2, B3, B4, B5, rfl, _, _, _, _, _, _, f1, f2, f3, f4, f5, hb⟩ := k
  exact ⟨⟨v.base, v.cap, v.tu, v.cyc, v.scan, s1, s2, s3, s4, s5⟩, rfl, ⟨his.1, f1.1, f2.1, f3.1, f4.1, f5.1⟩, hb⟩
def HTL (n : Nat) (w : World) (i : Value) (wr : World) : Prop := ∃ k : Nat, k ≤ n ∧ i = .int .i64 (k : Int) ∧ Below w.heap.size w wr
theorem slice_us (a : Option Addr) (n c m : Nat) (hm : m ≤ n) (hn : n ≤ c) : ∀ W, (Instr.slice 40 (.slice a n c) none (some (.int .i64 (m : Int))) none).run Try.prog W = .ok (.slice a m c) W := by
  obtain ⟨i0, hi, hz0, hz1, hz2⟩ := info_parts info_u64
  exact slice_to 40 22 i0 Try.underlying40 rfl hi hz1 a n c m hm hn
/-- Parts cut short one after another. -/
def fewV (F : Hp) (s1 s2 s3 s4 t1 t2 t3 t4 r : Sl) (k : Nat) : Hv := ⟨F.base, F.cap, F.to, F.cyc, F.scan, if 1 < k then t1 else s1, if 2 < k then t2 else s2, if 3 < k then t3 else s3, if 4 < k then t4 else s4, r⟩
def HTRel (F : Hp) (s1 s2 s3 s4 t1 t2 t3 t4 r : Sl) (g : Nat) (W : World) (p : Value) (wr : World) : Prop :=
  ∃ k : Nat, 1 ≤ k ∧ k ≤ 5 ∧ p = .int .i64 (k : Int) ∧ wr.heap[g]? = some (.cells (fewV F s1 s2 s3 s4 t1 t2 t3 t4 r k).cells 50 (0, 0)) ∧ Below W.heap.size W wr

set_option maxRecDepth 100000 in
set_option maxHeartbeats 4000000 in
theorem htells_walk (base wd rt : Int) (v : Hv) (F : Hp) (b n0 n1 n2 n3 n4 n5 : Int) (A : Option Addr) (ws : List Nat) (cap : Nat) (adr : Int) (xw : Nat) (w : World) (hbs : 0 ≤ base ∧ base < 18446744073709551616) (hwd : -9223372036854775808 ≤ wd ∧ wd ≤ 9223372036854775807) (hrt : -9223372036854775808 ≤ rt ∧ rt ≤ 9223372036854775807)
    (hvi : v.Is w F) (hvl : 0 ≤ v.base ∧ v.base < 18446744073709551616) (hvc : -9223372036854775808 ≤ v.cap ∧ v.cap ≤ 9223372036854775807) (hvt : -9223372036854775808 ≤ v.tu ∧ v.tu ≤ 9223372036854775807) (hb : 0 ≤ b ∧ b < 18446744073709551616) (g0 : -9223372036854775808 ≤ n0 ∧ n0 ≤ 9223372036854775807) (g1 : -9223372036854775808 ≤ n1 ∧ n1 ≤ 9223372036854775807) (g2 : -9223372036854775808 ≤ n2 ∧ n2 ≤ 9223372036854775807) (g3 : -9223372036854775808 ≤ n3 ∧ n3 ≤ 9223372036854775807) (g4 : -9223372036854775808 ≤ n4 ∧ n4 ≤ 9223372036854775807) (g5 : -9223372036854775808 ≤ n5 ∧ n5 ≤ 9223372036854775807)
    (hr : Rd w A (us ws)) (hc : ws.length ≤ cap) (hm : cap ≤ 9223372036854775807) (hv : ∀ x ∈ ws, x < 18446744073709551616) (had : 0 ≤ adr ∧ adr < 18446744073709551616) (hx : xw < 18446744073709551616) :
    Calls Try.prog 9 #[.int .u64 base, .int .i64 wd, .int .i64 rt, .agg v.cells, .int .u64 b, .agg #[.int .i64 n0, .int .i64 n1, .int .i64 n2, .int .i64 n3, .int .i64 n4, .int .i64 n5], .slice A ws.length cap, .int .u64 adr, .int .u64 (xw : Int)] w (RetTrue w) := by
  have HHP := Lib.hid fun W (a : Rd W A (us ws)) => heap_any b n0 n1 n2 n3 n4 n5 A ws cap W hb g0 g1 g2 g3 g4 g5 a (by omega) hv
  have hok := layOf_ok b n0 n1 n2 n3 n4 n5
  obtain ⟨l, hl⟩ : ∃ l, l = layOf b n0 n1 n2 n3 n4 n5 := ⟨_, rfl⟩
  rw [← hl] at HHP hok
  clear hl hb g0 g1 g2 g3 g4 g5
  obtain ⟨hok, hcap⟩ := hok
  have hll := hpL_lay l ws hok
  rw [← hll] at hok hcap
  have hrl : (hpL l ws).roots.length = 3 := smOf_len _ _ _
  obtain ⟨H, hH⟩ : ∃ H, H = hpL l ws := ⟨_, rfl⟩
  rw [← hH] at HHP hok hcap hrl
  have HRD := Lib.hid hr
  clear hH hll l hr hv
  have q1 : 1 ≤ H.base := hok.1
  have q2 : 0 ≤ H.cap := hok.2.1
  have q3 : H.cap ≤ 40 := hcap
  have q4 : H.base + 2 * H.cap ≤ 9223372036854775808 := hok.2.2.2.1
  have q5 : (H.low.length : Int) + H.high.length ≤ H.cap ∧ (H.old.length : Int) + H.far.length ≤ H.cap := by
    obtain ⟨_, _, _, _, _, _, _, c, _, _, f⟩ := hok
    exact ⟨c, f⟩
  have k1 : H.low.length ≤ 40 := by omega
  have k2 : H.high.length ≤ 40 := by omega
  have k3 : H.old.length ≤ 40 := by omega
  have k4 : H.far.length ≤ 40 := by omega
  have k5 : H.roots.length ≤ 40 := by omega
  clear q5 hrl hcap
  have HOK := Lib.hid hok
  clear hok
  have hpp := pickI_b wd 4099 (by omega)
  have hqq := pickI_b rt 19 (by omega)
  have HPw := Lib.hid fun W => pick10_any wd 4099 W hwd.1 hwd.2 (by omega) (by omega)
  have HPr := Lib.hid fun W => pick10_any rt 19 W hrt.1 hrt.2 (by omega) (by omega)
  obtain ⟨p, hpe⟩ : ∃ k, k = pickI wd 4099 := ⟨_, rfl⟩
  obtain ⟨q, hqe⟩ : ∃ k, k = pickI rt 19 := ⟨_, rfl⟩
  rw [← hpe] at hpp HPw
  rw [← hqe] at hqq HPr
  obtain ⟨hp0, hp1⟩ := hpp
  obtain ⟨hq0, hq1⟩ := hqq
  clear hpe hqe
  have HW0 := Lib.hid hwd
  have HR0 := Lib.hid hrt
  have HAD := Lib.hid had
  have HBS := Lib.hid hbs
  clear hwd hrt had hbs
  obtain ⟨vb, vc, vt, vy, vs, ⟨a1, l1, c1⟩, ⟨a2, l2, c2⟩, ⟨a3, l3, c3⟩, ⟨a4, l4, c4⟩, ⟨a5, l5, c5⟩⟩ := v
  obtain ⟨e1, e2, e3, e4, e5⟩ := hvi.1
  simp only at e1 e2 e3 e4 e5
  subst e1 e2 e3 e4 e5
  have hvl1 := hvi.2.1.2.1
  have hvl2 := hvi.2.2.1.2.1
  have hvl3 := hvi.2.2.2.1.2.1
  have hvl4 := hvi.2.2.2.2.1.2.1
  have hvl5 := hvi.2.2.2.2.2.2.1
  have hvc1 := hvi.2.1.2.2.1
  have hvc2 := hvi.2.2.1.2.2.1
  have hvc3 := hvi.2.2.2.1.2.2.1
  have hvc4 := hvi.2.2.2.2.1.2.2.1
  have hvc5 := hvi.2.2.2.2.2.2.2.1
  simp only at hvl1 hvl2 hvl3 hvl4 hvl5 hvc1 hvc2 hvc3 hvc4 hvc5
  obtain ⟨m1, hm1⟩ : ∃ m, m = min l1 12 := ⟨_, rfl⟩
  obtain ⟨m2, hm2⟩ : ∃ m, m = min l2 12 := ⟨_, rfl⟩
  obtain ⟨m3, hm3⟩ : ∃ m, m = min l3 12 := ⟨_, rfl⟩
  obtain ⟨m4, hm4⟩ : ∃ m, m = min l4 12 := ⟨_, rfl⟩
  obtain ⟨m5, hm5⟩ : ∃ m, m = min l5 20 := ⟨_, rfl⟩
  have HM := Lib.hid (And.intro hm1 (And.intro hm2 (And.intro hm3 (And.intro hm4 hm5))))
  have g1' : m1 ≤ l1 ∧ m1 ≤ 12 := by omega
  have g2' : m2 ≤ l2 ∧ m2 ≤ 12 := by omega
  have g3' : m3 ≤ l3 ∧ m3 ≤ 12 := by omega
  have g4' : m4 ≤ l4 ∧ m4 ≤ 12 := by omega
  have g5' : m5 ≤ l5 ∧ m5 ≤ 20 := by omega
  have hq1' : l1 ≤ m1 ∨ 12 ≤ m1 := by omega
  have hq2' : l2 ≤ m2 ∨ 12 ≤ m2 := by omega
  have hq3' : l3 ≤ m3 ∨ 12 ≤ m3 := by omega
  have hq4' : l4 ≤ m4 ∨ 12 ≤ m4 := by omega
  have hq5' : l5 ≤ m5 ∨ 20 ≤ m5 := by omega
  clear hm1 hm2 hm3 hm4 hm5
  have HVL := Lib.hid (And.intro hvl (And.intro hvc hvt))
  clear hvl hvc hvt
  have hv0 := HeapAt.lit w ⟨F.base, F.cap, F.to, F.cyc, F.scan, ⟨a1, l1, c1⟩, ⟨a2, l2, c2⟩, ⟨a3, l3, c3⟩, ⟨a4, l4, c4⟩, ⟨a5, l5, c5⟩⟩ 50
  have hr0 := RowAt.lit (w.alloc (.cells (Hv.cells ⟨F.base, F.cap, F.to, F.cyc, F.scan, ⟨a1, l1, c1⟩, ⟨a2, l2, c2⟩, ⟨a3, l3, c3⟩, ⟨a4, l4, c4⟩, ⟨a5, l5, c5⟩⟩) 50)) #[.int .i64 n0, .int .i64 n1, .int .i64 n2, .int .i64 n3, .int .i64 n4, .int .i64 n5] 25
  rw [show (w.alloc (.cells (Hv.cells ⟨F.base, F.cap, F.to, F.cyc, F.scan, ⟨a1, l1, c1⟩, ⟨a2, l2, c2⟩, ⟨a3, l3, c3⟩, ⟨a4, l4, c4⟩, ⟨a5, l5, c5⟩⟩) 50)).heap.size = w.heap.size + 1 by simp] at hr0
  have hv0 := hv0.alloc (.cells #[.int .i64 n0, .int .i64 n1, .int .i64 n2, .int .i64 n3, .int .i64 n4, .int .i64 n5] 25)
  have hb0 := bl_alloc (bl_alloc (bl_refl w) (.cells (Hv.cells ⟨F.base, F.cap, F.to, F.cyc, F.scan, ⟨a1, l1, c1⟩, ⟨a2, l2, c2⟩, ⟨a3, l3, c3⟩, ⟨a4, l4, c4⟩, ⟨a5, l5, c5⟩⟩) 50)) (.cells #[.int .i64 n0, .int .i64 n1, .int .i64 n2, .int .i64 n3, .int .i64 n4, .int .i64 n5] 25)
  simp only [Hv.cells, Sl.v] at hv0 hr0 hb0 ⊢
  go_enter Try.func9, Try.ntmps9
  go_wp2_with fail
  refine (awake10_any _).mono ?_
  intro e w1 hr1
  obtain ⟨rfl, hb1⟩ := id hr1
  have hv1 := hv0.below hb1
  have hr1' := hr0.below hb1
  have hbw1 := bl_step hb0 hb1
  clear hr1 hb1 hv0 hr0 hb0
  go_wp2_with fail
  refine (HPw.out _).mono ?_
  rintro e w2 ⟨rfl, rfl⟩
  go_wp2_with fail
  refine (HPr.out _).mono ?_
  rintro e w2 ⟨rfl, rfl⟩
  go_wp2_with fail
  have hPP : ∀ k : Nat, k < 2 → ∃ P I : Int, (-9223372036854775808 ≤ P ∧ P ≤ 9223372036854775807) ∧ (-9223372036854775808 ≤ I ∧ I ≤ 9223372036854775807) ∧
      (w1.alloc (.cells #[.int .i64 wd, .int .i64 rt, .int .i64 (p - 1), .int .i64 (q - 1)] 51)).cell? ⟨w1.heap.size, k * 2, none⟩ = some (.int .i64 P) ∧ (w1.alloc (.cells #[.int .i64 wd, .int .i64 rt, .int .i64 (p - 1), .int .i64 (q - 1)] 51)).cell? ⟨w1.heap.size, k * 2 + 1, none⟩ = some (.int .i64 I) := fun k hk => by
    have hc := fun i => blk_cell (heap_alloc_new w1 (.cells #[.int .i64 wd, .int .i64 rt, .int .i64 (p - 1), .int .i64 (q - 1)] 51)) i
    obtain rfl | rfl : k = 0 ∨ k = 1 := by omega
    · exact ⟨wd, rt, HW0.out, HR0.out, hc 0, hc 1⟩
    · exact ⟨p - 1, q - 1, by omega, by omega, hc 2, hc 3⟩
  have HPP := Lib.hid hPP
  have hv2 := hv1.alloc (.cells #[.int .i64 wd, .int .i64 rt, .int .i64 (p - 1), .int .i64 (q - 1)] 51)
  have hr2 := hr1'.below (bl_alloc (bl_refl w1) (.cells #[.int .i64 wd, .int .i64 rt, .int .i64 (p - 1), .int .i64 (q - 1)] 51))
  have hbw2 := bl_alloc hbw1 (.cells #[.int .i64 wd, .int .i64 rt, .int .i64 (p - 1), .int .i64 (q - 1)] 51)
  obtain ⟨W2, hW2⟩ : ∃ W, W = w1.alloc (.cells #[.int .i64 wd, .int .i64 rt, .int .i64 (p - 1), .int .i64 (q - 1)] 51) := ⟨_, rfl⟩
  rw [← hW2] at HPP hv2 hr2 hbw2 ⊢
  obtain ⟨gS, hgS⟩ : ∃ g, g = w1.heap.size := ⟨_, rfl⟩
  rw [← hgS] at HPP ⊢
  clear hPP hW2 hgS hv1 hr1' hbw1 HPw HPr HW0 HR0 hp0 hp1 hq0 hq1
  go_loopw [53] (fun i wr => HTL 2 W2 i wr) (fun i _ => 2 - (intOf i).toNat)
  case atStart => exact ⟨0, by omega, rfl, bl_refl _⟩
  case round =>
    obtain ⟨k, hk, rfl, hb⟩ := hrel
    obtain ⟨w3, rfl⟩ : ∃ w3 : World, w3 = wr := ⟨_, rfl⟩
    by_cases hlt : k < 2
    · obtain ⟨P, I, hP, hI, hcP, hcI⟩ := HPP.out k hlt
      have gP := cells_keep2 hcP hb
      have gI := cells_keep2 hcI hb
      have HN1 := Lib.hid fun W => new_any base P I W HBS.out hP hI
      have HN2 := Lib.hid fun W => rnew_any base P I W HBS.out hP hI
      obtain ⟨X, hX⟩ : ∃ X, X = newH base P I := ⟨_, rfl⟩
      obtain ⟨E, hE⟩ : ∃ E, E = newE base P I := ⟨_, rfl⟩
      rw [← hX, ← hE] at HN1 HN2
      have ht3 := TwoAt.lit w3 (.int .i64 P) (.int .i64 I) 51
      have hb3 := bl_alloc hb (.cells #[.int .i64 P, .int .i64 I] 51)
      clear hcP hcI hX hE hP hI hb
      go_wp2_with fail
      refine (HN1.out _).mono ?_
      intro e w4 hr
      obtain ⟨u4, rfl, hi4, hb4⟩ := hr
      have ht4 := ht3.below hb4
      have hb4' := bl_alloc (bl_step hb3 hb4) (.cells u4.cells 50)
      have hg4 := HeapAt.lit w4 u4 50
      have hi4 := hi4.below (bl_alloc (bl_refl w4) (.cells u4.cells 50))
      simp only [Hv.cells, Sl.v] at hb4' hg4 hi4 ⊢
      clear hb3 ht3 hb4 gP gI
      obtain ⟨t0, t1⟩ := id ht4
      have zt : w3.heap.size < w4.heap.size := World.block_lt_of_cell? _ _ t0
      go_wp2_with fail
      clear t0 t1 zt
      refine (HN2.out _).mono ?_
      intro e w5 hr
      obtain ⟨u5, rfl, hi5, hb5⟩ := hr
      have hg5 := (hg4.below hb5).alloc (.cells u5.cells 50)
      have hi4 := (hi4.below hb5).below (bl_alloc (bl_refl w5) (.cells u5.cells 50))
      have hh5 := HeapAt.lit w5 u5 50
      have hi5 := hi5.below (bl_alloc (bl_refl w5) (.cells u5.cells 50))
      have hb5' := bl_alloc (bl_step hb4' hb5) (.cells u5.cells 50)
      have hg5w := hg4.below hb5
      simp only [Hv.cells, Sl.v] at hg5 hi4 hh5 hi5 hb5' ⊢
      clear hb5 hb4' hg4
      obtain ⟨t0, t1, t2, t3, t4, t5, t6, t7, t8, t9⟩ := id hg5w
      have zt : w4.heap.size < w5.heap.size := World.block_lt_of_cell? _ _ t0
      have HS := same_any u4 u5 X _ hi4 hi5
      simp only [Hv.cells, Sl.v] at HS
      go_wp2_with fail
      refine HS.mono ?_
      intro e w6 hr
      obtain ⟨rfl, hb6⟩ := hr.both
      clear t0 t1 t2 t3 t4 t5 t6 t7 t8 t9 HS hg5w
      go_wp2
      exact ⟨⟨k + 1, by omega, by go_num, bl_step hb5' hb6⟩, by simp [intOf]; omega⟩
    · have hv3 := hv2.below hb
      have hr3 := hr2.below hb
      have hbw3 := bl_step hbw2 hb
      obtain ⟨c0, c1', c2', c3', c4', c5', c6, c7, c8, c9⟩ := id hv3
      simp only at c0 c1' c2' c3' c4' c5' c6 c7 c8 c9
      have zg : w.heap.size < w3.heap.size := World.block_lt_of_cell? _ _ c0
      go_wp2_with fail
      clear c0 c1' c2' c3' c4' c5' c6 c7 c8 c9 zg
      obtain ⟨W4, hW4⟩ : ∃ W, W = w3.alloc (.cells #[.int .u64 F.base, .int .i64 F.cap, .int .i64 F.to, .bool F.cyc, .int .i64 F.scan, .slice a1 l1 c1, .slice a2 l2 c2, .slice a3 l3 c3, .slice a4 l4 c4, .slice a5 l5 c5] 50) := ⟨_, rfl⟩
      have hk4 := heap_alloc_new w3 (.cells #[.int .u64 F.base, .int .i64 F.cap, .int .i64 F.to, .bool F.cyc, .int .i64 F.scan, .slice a1 l1 c1, .slice a2 l2 c2, .slice a3 l3 c3, .slice a4 l4 c4, .slice a5 l5 c5] 50)
      have hb4 := bl_alloc (bl_refl w3) (.cells #[.int .u64 F.base, .int .i64 F.cap, .int .i64 F.to, .bool F.cyc, .int .i64 F.scan, .slice a1 l1 c1, .slice a2 l2 c2, .slice a3 l3 c3, .slice a4 l4 c4, .slice a5 l5 c5] 50)
      rw [← hW4] at hk4 hb4 ⊢
      obtain ⟨gF, hgF⟩ : ∃ g, g = w3.heap.size := ⟨_, rfl⟩
      have zF : w3.heap.size ≤ gF := by omega
      rw [← hgF] at hk4 ⊢
      clear hW4 hgF
      go_loopw [27] (fun p wr => HTRel F ⟨a1, l1, c1⟩ ⟨a2, l2, c2⟩ ⟨a3, l3, c3⟩ ⟨a4, l4, c4⟩ ⟨a1, m1, c1⟩ ⟨a2, m2, c2⟩ ⟨a3, m3, c3⟩ ⟨a4, m4, c4⟩ ⟨a5, l5, c5⟩ gF w3 p wr) (fun p _ => 5 - (intOf p).toNat)
      case atStart => exact ⟨1, by omega, by omega, rfl, hk4, hb4⟩
      case round =>
        obtain ⟨k, hk1, hk5, rfl, hkk, hb⟩ := hrel
        obtain ⟨w5, rfl⟩ : ∃ w5 : World, w5 = wr := ⟨_, rfl⟩
        by_cases hlt : k ≤ 4
        · obtain rfl | rfl | rfl | rfl : k = 1 ∨ k = 2 ∨ k = 3 ∨ k = 4 := by omega
          · have hk5 : w5.heap[gF]? = some (.cells #[.int .u64 F.base, .int .i64 F.cap, .int .i64 F.to, .bool F.cyc, .int .i64 F.scan, .slice a1 l1 c1, .slice a2 l2 c2, .slice a3 l3 c3, .slice a4 l4 c4, .slice a5 l5 c5] 50 (0, 0)) := hkk
            have HPt : ∀ W, Calls Try.prog 34 #[.agg #[.int .u64 F.base, .int .i64 F.cap, .int .i64 F.to, .bool F.cyc, .int .i64 F.scan, .slice a1 l1 c1, .slice a2 l2 c2, .slice a3 l3 c3, .slice a4 l4 c4, .slice a5 l5 c5], .int .i64 1] W (RetB (.slice a1 l1 c1) W) := fun W => part_any ⟨F.base, F.cap, F.to, F.cyc, F.scan, ⟨a1, l1, c1⟩, ⟨a2, l2, c2⟩, ⟨a3, l3, c3⟩, ⟨a4, l4, c4⟩, ⟨a5, l5, c5⟩⟩ 1 W (by omega) (by omega)
            have HWt : ∀ W, Calls Try.prog 33 #[.agg #[.int .u64 F.base, .int .i64 F.cap, .int .i64 F.to, .bool F.cyc, .int .i64 F.scan, .slice a1 l1 c1, .slice a2 l2 c2, .slice a3 l3 c3, .slice a4 l4 c4, .slice a5 l5 c5], .int .i64 1, .slice a1 m1 c1] W (RetB (.agg #[.int .u64 F.base, .int .i64 F.cap, .int .i64 F.to, .bool F.cyc, .int .i64 F.scan, .slice a1 m1 c1, .slice a2 l2 c2, .slice a3 l3 c3, .slice a4 l4 c4, .slice a5 l5 c5]) W) := fun W => with_any ⟨F.base, F.cap, F.to, F.cyc, F.scan, ⟨a1, l1, c1⟩, ⟨a2, l2, c2⟩, ⟨a3, l3, c3⟩, ⟨a4, l4, c4⟩, ⟨a5, l5, c5⟩⟩ 1 ⟨a1, m1, c1⟩ W (by omega) (by omega)
            have HP' := Lib.hid HPt
            have HW' := Lib.hid HWt
            have hmin := min_is (P := Try.prog) l1 m1 12 (by omega)
            have hsl := slice_us a1 l1 c1 m1 (by omega) (by omega)
            have hat : HeapAt w5 gF ⟨F.base, F.cap, F.to, F.cyc, F.scan, ⟨a1, l1, c1⟩, ⟨a2, l2, c2⟩, ⟨a3, l3, c3⟩, ⟨a4, l4, c4⟩, ⟨a5, l5, c5⟩⟩ := HeapAt.of_blk hk5
            obtain ⟨d0, d1, d2, d3, d4, d5, d6, d7, d8, d9⟩ := id hat
            simp only at d0 d1 d2 d3 d4 d5 d6 d7 d8 d9
            have zf : gF < w5.heap.size := lt_of_heap hk5
            clear HPt HWt hkk hat
            rw [show ((1 : Nat) : Int) = 1 from rfl]
            go_wp2_with fail
            refine wp_region_later_tail 12 (by kernel_rfl) (by kernel_rfl) ?_
            simp only [List.take_succ_cons, List.take_zero, List.drop_succ_cons, List.drop_zero]
            repeat (go_big_quiet_step ((first | with_reducible exact later_retB (HP'.out _) | with_reducible exact later_retB (HW'.out _))))
            refine wpQuiet_nil ?_
            intro _ hw'
            obtain ⟨x, hw''⟩ := hw'
            subst hw''
            have hk6 := blk_below hk5 x.below zf
            have hb6 := bl_step hb x.below
            have zf6 : gF < x.w.heap.size := lt_of_heap hk6
            have hfr := fun i => blk_frozen hk6 i
            have e0 := blk_cell hk6 0
            have e1 := blk_cell hk6 1
            have e2 := blk_cell hk6 2
            have e3 := blk_cell hk6 3
            have e4 := blk_cell hk6 4
            have e5 := blk_cell hk6 5
            have e6 := blk_cell hk6 6
            have e7 := blk_cell hk6 7
            have e8 := blk_cell hk6 8
            have e9 := blk_cell hk6 9
            revert hk6 hb6 zf6 hfr e0 e1 e2 e3 e4 e5 e6 e7 e8 e9
            obtain ⟨W6, hW6⟩ : ∃ W, W = x.w := ⟨_, rfl⟩
            rw [← hW6]
            intro hk6 hb6 zf6 hfr e0 e1 e2 e3 e4 e5 e6 e7 e8 e9
            clear hW6 x d0 d1 d2 d3 d4 d5 d6 d7 d8 d9 zf hmin hsl
            simp only [List.getElem?_toArray, List.getElem?_cons_zero, List.getElem?_cons_succ] at e0 e1 e2 e3 e4 e5 e6 e7 e8 e9
            go_wp2_with fail
            have hh := blk_set (blk_set (blk_set (blk_set (blk_set (blk_set (blk_set (blk_set (blk_set (blk_set hk6 0 (.int .u64 F.base)) 1 (.int .i64 F.cap)) 2 (.int .i64 F.to)) 3 (.bool F.cyc)) 4 (.int .i64 F.scan)) 5 (.slice a1 m1 c1)) 6 (.slice a2 l2 c2)) 7 (.slice a3 l3 c3)) 8 (.slice a4 l4 c4)) 9 (.slice a5 l5 c5)
            simp only [List.setIfInBounds_toArray, List.set_cons_zero, List.set_cons_succ] at hh
            refine ⟨⟨1 + 1, by omega, by omega, rfl, hh, ?_⟩, by simp [intOf]⟩
            repeat (with_reducible refine Below.setCell ?_ (by simp only; omega) _)
            exact hb6
          · have hk5 : w5.heap[gF]? = some (.cells #[.int .u64 F.base, .int .i64 F.cap, .int .i64 F.to, .bool F.cyc, .int .i64 F.scan, .slice a1 m1 c1, .slice a2 l2 c2, .slice a3 l3 c3, .slice a4 l4 c4, .slice a5 l5 c5] 50 (0, 0)) := hkk
            have HPt : ∀ W, Calls Try.prog 34 #[.agg #[.int .u64 F.base, .int .i64 F.cap, .int .i64 F.to, .bool F.cyc, .int .i64 F.scan, .slice a1 m1 c1, .slice a2 l2 c2, .slice a3 l3 c3, .slice a4 l4 c4, .slice a5 l5 c5], .int .i64 2] W (RetB (.slice a2 l2 c2) W) := fun W => part_any ⟨F.base, F.cap, F.to, F.cyc, F.scan, ⟨a1, m1, c1⟩, ⟨a2, l2, c2⟩, ⟨a3, l3, c3⟩, ⟨a4, l4, c4⟩, ⟨a5, l5, c5⟩⟩ 2 W (by omega) (by omega)
            have HWt : ∀ W, Calls Try.prog 33 #[.agg #[.int .u64 F.base, .int .i64 F.cap, .int .i64 F.to, .bool F.cyc, .int .i64 F.scan, .slice a1 m1 c1, .slice a2 l2 c2, .slice a3 l3 c3, .slice a4 l4 c4, .slice a5 l5 c5], .int .i64 2, .slice a2 m2 c2] W (RetB (.agg #[.int .u64 F.base, .int .i64 F.cap, .int .i64 F.to, .bool F.cyc, .int .i64 F.scan, .slice a1 m1 c1, .slice a2 m2 c2, .slice a3 l3 c3, .slice a4 l4 c4, .slice a5 l5 c5]) W) := fun W => with_any ⟨F.base, F.cap, F.to, F.cyc, F.scan, ⟨a1, m1, c1⟩, ⟨a2, l2, c2⟩, ⟨a3, l3, c3⟩, ⟨a4, l4, c4⟩, ⟨a5, l5, c5⟩⟩ 2 ⟨a2, m2, c2⟩ W (by omega) (by omega)
            have HP' := Lib.hid HPt
            have HW' := Lib.hid HWt
            have hmin := min_is (P := Try.prog) l2 m2 12 (by omega)
            have hsl := slice_us a2 l2 c2 m2 (by omega) (by omega)
            have hat : HeapAt w5 gF ⟨F.base, F.cap, F.to, F.cyc, F.scan, ⟨a1, m1, c1⟩, ⟨a2, l2, c2⟩, ⟨a3, l3, c3⟩, ⟨a4, l4, c4⟩, ⟨a5, l5, c5⟩⟩ := HeapAt.of_blk hk5
            obtain ⟨d0, d1, d2, d3, d4, d5, d6, d7, d8, d9⟩ := id hat
            simp only at d0 d1 d2 d3 d4 d5 d6 d7 d8 d9
            have zf : gF < w5.heap.size := lt_of_heap hk5
            clear HPt HWt hkk hat
            rw [show ((2 : Nat) : Int) = 2 from rfl]
            go_wp2_with fail
            refine wp_region_later_tail 12 (by kernel_rfl) (by kernel_rfl) ?_
            simp only [List.take_succ_cons, List.take_zero, List.drop_succ_cons, List.drop_zero]
            repeat (go_big_quiet_step ((first | with_reducible exact later_retB (HP'.out _) | with_reducible exact later_retB (HW'.out _))))
            refine wpQuiet_nil ?_
            intro _ hw'
            obtain ⟨x, hw''⟩ := hw'
            subst hw''
            have hk6 := blk_below hk5 x.below zf
            have hb6 := bl_step hb x.below
            have zf6 : gF < x.w.heap.size := lt_of_heap hk6
            have hfr := fun i => blk_frozen hk6 i
            have e0 := blk_cell hk6 0
            have e1 := blk_cell hk6 1
            have e2 := blk_cell hk6 2
            have e3 := blk_cell hk6 3
            have e4 := blk_cell hk6 4
            have e5 := blk_cell hk6 5
            have e6 := blk_cell hk6 6
            have e7 := blk_cell hk6 7
            have e8 := blk_cell hk6 8
            have e9 := blk_cell hk6 9
            revert hk6 hb6 zf6 hfr e0 e1 e2 e3 e4 e5 e6 e7 e8 e9
            obtain ⟨W6, hW6⟩ : ∃ W, W = x.w := ⟨_, rfl⟩
            rw [← hW6]
            intro hk6 hb6 zf6 hfr e0 e1 e2 e3 e4 e5 e6 e7 e8 e9
            clear hW6 x d0 d1 d2 d3 d4 d5 d6 d7 d8 d9 zf hmin hsl
            simp only [List.getElem?_toArray, List.getElem?_cons_zero, List.getElem?_cons_succ] at e0 e1 e2 e3 e4 e5 e6 e7 e8 e9
            go_wp2_with fail
            have hh := blk_set (blk_set (blk_set (blk_set (blk_set (blk_set (blk_set (blk_set (blk_set (blk_set hk6 0 (.int .u64 F.base)) 1 (.int .i64 F.cap)) 2 (.int .i64 F.to)) 3 (.bool F.cyc)) 4 (.int .i64 F.scan)) 5 (.slice a1 m1 c1)) 6 (.slice a2 m2 c2)) 7 (.slice a3 l3 c3)) 8 (.slice a4 l4 c4)) 9 (.slice a5 l5 c5)
            simp only [List.setIfInBounds_toArray, List.set_cons_zero, List.set_cons_succ] at hh
            refine ⟨⟨2 + 1, by omega, by omega, rfl, hh, ?_⟩, by simp [intOf]⟩
            repeat (with_reducible refine Below.setCell ?_ (by simp only; omega) _)
            exact hb6
          · have hk5 : w5.heap[gF]? = some (.cells #[.int .u64 F.base, .int .i64 F.cap, .int .i64 F.to, .bool F.cyc, .int .i64 F.scan, .slice a1 m1 c1, .slice a2 m2 c2, .slice a3 l3 c3, .slice a4 l4 c4, .slice a5 l5 c5] 50 (0, 0)) := hkk
            have HPt : ∀ W, Calls Try.prog 34 #[.agg #[.int .u64 F.base, .int .i64 F.cap, .int .i64 F.to, .bool F.cyc, .int .i64 F.scan, .slice a1 m1 c1, .slice a2 m2 c2, .slice a3 l3 c3, .slice a4 l4 c4, .slice a5 l5 c5], .int .i64 3] W (RetB (.slice a3 l3 c3) W) := fun W => part_any ⟨F.base, F.cap, F.to, F.cyc, F.scan, ⟨a1, m1, c1⟩, ⟨a2, m2, c2⟩, ⟨a3, l3, c3⟩, ⟨a4, l4, c4⟩, ⟨a5, l5, c5⟩⟩ 3 W (by omega) (by omega)
            have HWt : ∀ W, Calls Try.prog 33 #[.agg #[.int .u64 F.base, .int .i64 F.cap, .int .i64 F.to, .bool F.cyc, .int .i64 F.scan, .slice a1 m1 c1, .slice a2 m2 c2, .slice a3 l3 c3, .slice a4 l4 c4, .slice a5 l5 c5], .int .i64 3, .slice a3 m3 c3] W (RetB (.agg #[.int .u64 F.base, .int .i64 F.cap, .int .i64 F.to, .bool F.cyc, .int .i64 F.scan, .slice a1 m1 c1, .slice a2 m2 c2, .slice a3 m3 c3, .slice a4 l4 c4, .slice a5 l5 c5]) W) := fun W => with_any ⟨F.base, F.cap, F.to, F.cyc, F.scan, ⟨a1, m1, c1⟩, ⟨a2, m2, c2⟩, ⟨a3, l3, c3⟩, ⟨a4, l4, c4⟩, ⟨a5, l5, c5⟩⟩ 3 ⟨a3, m3, c3⟩ W (by omega) (by omega)
            have HP' := Lib.hid HPt
            have HW' := Lib.hid HWt
            have hmin := min_is (P := Try.prog) l3 m3 12 (by omega)
            have hsl := slice_us a3 l3 c3 m3 (by omega) (by omega)
            have hat : HeapAt w5 gF ⟨F.base, F.cap, F.to, F.cyc, F.scan, ⟨a1, m1, c1⟩, ⟨a2, m2, c2⟩, ⟨a3, l3, c3⟩, ⟨a4, l4, c4⟩, ⟨a5, l5, c5⟩⟩ := HeapAt.of_blk hk5
            obtain ⟨d0, d1, d2, d3, d4, d5, d6, d7, d8, d9⟩ := id hat
            simp only at d0 d1 d2 d3 d4 d5 d6 d7 d8 d9
            have zf : gF < w5.heap.size := lt_of_heap hk5
            clear HPt HWt hkk hat
            rw [show ((3 : Nat) : Int) = 3 from rfl]
            go_wp2_with fail
            refine wp_region_later_tail 12 (by kernel_rfl) (by kernel_rfl) ?_
            simp only [List.take_succ_cons, List.take_zero, List.drop_succ_cons, List.drop_zero]
            repeat (go_big_quiet_step ((first | with_reducible exact later_retB (HP'.out _) | with_reducible exact later_retB (HW'.out _))))
            refine wpQuiet_nil ?_
            intro _ hw'
            obtain ⟨x, hw''⟩ := hw'
            subst hw''
            have hk6 := blk_below hk5 x.below zf
            have hb6 := bl_step hb x.below
            have zf6 : gF < x.w.heap.size := lt_of_heap hk6
            have hfr := fun i => blk_frozen hk6 i
            have e0 := blk_cell hk6 0
            have e1 := blk_cell hk6 1
            have e2 := blk_cell hk6 2
            have e3 := blk_cell hk6 3
            have e4 := blk_cell hk6 4
            have e5 := blk_cell hk6 5
            have e6 := blk_cell hk6 6
            have e7 := blk_cell hk6 7
            have e8 := blk_cell hk6 8
            have e9 := blk_cell hk6 9
            revert hk6 hb6 zf6 hfr e0 e1 e2 e3 e4 e5 e6 e7 e8 e9
            obtain ⟨W6, hW6⟩ : ∃ W, W = x.w := ⟨_, rfl⟩
            rw [← hW6]
            intro hk6 hb6 zf6 hfr e0 e1 e2 e3 e4 e5 e6 e7 e8 e9
            clear hW6 x d0 d1 d2 d3 d4 d5 d6 d7 d8 d9 zf hmin hsl
            simp only [List.getElem?_toArray, List.getElem?_cons_zero, List.getElem?_cons_succ] at e0 e1 e2 e3 e4 e5 e6 e7 e8 e9
            go_wp2_with fail
            have hh := blk_set (blk_set (blk_set (blk_set (blk_set (blk_set (blk_set (blk_set (blk_set (blk_set hk6 0 (.int .u64 F.base)) 1 (.int .i64 F.cap)) 2 (.int .i64 F.to)) 3 (.bool F.cyc)) 4 (.int .i64 F.scan)) 5 (.slice a1 m1 c1)) 6 (.slice a2 m2 c2)) 7 (.slice a3 m3 c3)) 8 (.slice a4 l4 c4)) 9 (.slice a5 l5 c5)
            simp only [List.setIfInBounds_toArray, List.set_cons_zero, List.set_cons_succ] at hh
            refine ⟨⟨3 + 1, by omega, by omega, rfl, hh, ?_⟩, by simp [intOf]⟩
            repeat (with_reducible refine Below.setCell ?_ (by simp only; omega) _)
            exact hb6
          · have hk5 : w5.heap[gF]? = some (.cells #[.int .u64 F.base, .int .i64 F.cap, .int .i64 F.to, .bool F.cyc, .int .i64 F.scan, .slice a1 m1 c1, .slice a2 m2 c2, .slice a3 m3 c3, .slice a4 l4 c4, .slice a5 l5 c5] 50 (0, 0)) := hkk
            have HPt : ∀ W, Calls Try.prog 34 #[.agg #[.int .u64 F.base, .int .i64 F.cap, .int .i64 F.to, .bool F.cyc, .int .i64 F.scan, .slice a1 m1 c1, .slice a2 m2 c2, .slice a3 m3 c3, .slice a4 l4 c4, .slice a5 l5 c5], .int .i64 4] W (RetB (.slice a4 l4 c4) W) := fun W => part_any ⟨F.base, F.cap, F.to, F.cyc, F.scan, ⟨a1, m1, c1⟩, ⟨a2, m2, c2⟩, ⟨a3, m3, c3⟩, ⟨a4, l4, c4⟩, ⟨a5, l5, c5⟩⟩ 4 W (by omega) (by omega)
            have HWt : ∀ W, Calls Try.prog 33 #[.agg #[.int .u64 F.base, .int .i64 F.cap, .int .i64 F.to, .bool F.cyc, .int .i64 F.scan, .slice a1 m1 c1, .slice a2 m2 c2, .slice a3 m3 c3, .slice a4 l4 c4, .slice a5 l5 c5], .int .i64 4, .slice a4 m4 c4] W (RetB (.agg #[.int .u64 F.base, .int .i64 F.cap, .int .i64 F.to, .bool F.cyc, .int .i64 F.scan, .slice a1 m1 c1, .slice a2 m2 c2, .slice a3 m3 c3, .slice a4 m4 c4, .slice a5 l5 c5]) W) := fun W => with_any ⟨F.base, F.cap, F.to, F.cyc, F.scan, ⟨a1, m1, c1⟩, ⟨a2, m2, c2⟩, ⟨a3, m3, c3⟩, ⟨a4, l4, c4⟩, ⟨a5, l5, c5⟩⟩ 4 ⟨a4, m4, c4⟩ W (by omega) (by omega)
            have HP' := Lib.hid HPt
            have HW' := Lib.hid HWt
            have hmin := min_is (P := Try.prog) l4 m4 12 (by omega)
            have hsl := slice_us a4 l4 c4 m4 (by omega) (by omega)
            have hat : HeapAt w5 gF ⟨F.base, F.cap, F.to, F.cyc, F.scan, ⟨a1, m1, c1⟩, ⟨a2, m2, c2⟩, ⟨a3, m3, c3⟩, ⟨a4, l4, c4⟩, ⟨a5, l5, c5⟩⟩ := HeapAt.of_blk hk5
            obtain ⟨d0, d1, d2, d3, d4, d5, d6, d7, d8, d9⟩ := id hat
            simp only at d0 d1 d2 d3 d4 d5 d6 d7 d8 d9
            have zf : gF < w5.heap.size := lt_of_heap hk5
            clear HPt HWt hkk hat
            rw [show ((4 : Nat) : Int) = 4 from rfl]
            go_wp2_with fail
            refine wp_region_later_tail 12 (by kernel_rfl) (by kernel_rfl) ?_
            simp only [List.take_succ_cons, List.take_zero, List.drop_succ_cons, List.drop_zero]
            repeat (go_big_quiet_step ((first | with_reducible exact later_retB (HP'.out _) | with_reducible exact later_retB (HW'.out _))))
            refine wpQuiet_nil ?_
            intro _ hw'
            obtain ⟨x, hw''⟩ := hw'
            subst hw''
            have hk6 := blk_below hk5 x.below zf
            have hb6 := bl_step hb x.below
            have zf6 : gF < x.w.heap.size := lt_of_heap hk6
            have hfr := fun i => blk_frozen hk6 i
            have e0 := blk_cell hk6 0
            have e1 := blk_cell hk6 1
            have e2 := blk_cell hk6 2
            have e3 := blk_cell hk6 3
            have e4 := blk_cell hk6 4
            have e5 := blk_cell hk6 5
            have e6 := blk_cell hk6 6
            have e7 := blk_cell hk6 7
            have e8 := blk_cell hk6 8
            have e9 := blk_cell hk6 9
            revert hk6 hb6 zf6 hfr e0 e1 e2 e3 e4 e5 e6 e7 e8 e9
            obtain ⟨W6, hW6⟩ : ∃ W, W = x.w := ⟨_, rfl⟩
            rw [← hW6]
            intro hk6 hb6 zf6 hfr e0 e1 e2 e3 e4 e5 e6 e7 e8 e9
            clear hW6 x d0 d1 d2 d3 d4 d5 d6 d7 d8 d9 zf hmin hsl
            simp only [List.getElem?_toArray, List.getElem?_cons_zero, List.getElem?_cons_succ] at e0 e1 e2 e3 e4 e5 e6 e7 e8 e9
            go_wp2_with fail
            have hh := blk_set (blk_set (blk_set (blk_set (blk_set (blk_set (blk_set (blk_set (blk_set (blk_set hk6 0 (.int .u64 F.base)) 1 (.int .i64 F.cap)) 2 (.int .i64 F.to)) 3 (.bool F.cyc)) 4 (.int .i64 F.scan)) 5 (.slice a1 m1 c1)) 6 (.slice a2 m2 c2)) 7 (.slice a3 m3 c3)) 8 (.slice a4 m4 c4)) 9 (.slice a5 l5 c5)
            simp only [List.setIfInBounds_toArray, List.set_cons_zero, List.set_cons_succ] at hh
            refine ⟨⟨4 + 1, by omega, by omega, rfl, hh, ?_⟩, by simp [intOf]⟩
            repeat (with_reducible refine Below.setCell ?_ (by simp only; omega) _)
            exact hb6
        · obtain rfl : k = 5 := by omega
          have hk5 : w5.heap[gF]? = some (.cells #[.int .u64 F.base, .int .i64 F.cap, .int .i64 F.to, .bool F.cyc, .int .i64 F.scan, .slice a1 m1 c1, .slice a2 m2 c2, .slice a3 m3 c3, .slice a4 m4 c4, .slice a5 l5 c5] 50 (0, 0)) := hkk
          have hv5 := hv3.below hb
          have hr5 := hr3.below hb
          have hvi5 := hvi.below (bl_step hbw3 hb)
          have hbw5 := bl_step hbw3 hb
          rw [show ((5 : Nat) : Int) = 5 from rfl]
          have hmin := min_is (P := Try.prog) l5 m5 20 (by omega)
          have hsl := slice_us a5 l5 c5 m5 (by omega) (by omega)
          have d9 := hv5.2.2.2.2.2.2.2.2.2
          simp only at d9
          have hfr := blk_frozen hk5 9
          have e9 : w5.cell? ⟨gF, 9, none⟩ = some (.slice a5 l5 c5) := blk_cell hk5 9
          have zv : w.heap.size < w5.heap.size := World.block_lt_of_cell? _ _ d9
          have zF5 : gF < w5.heap.size := lt_of_heap hk5
          have z3 : w.heap.size + 1 < w3.heap.size := World.block_lt_of_cell? _ _ (hr3 0 _ rfl)
          have nBF : w.heap.size + 1 ≠ gF := by omega
          clear hkk
          go_wp2_with fail
          have hk7 := blk_set hk5 9 (.slice a5 m5 c5)
          simp only [List.setIfInBounds_toArray, List.set_cons_zero, List.set_cons_succ] at hk7
          have hr7 : RowAt (w5.setCell ⟨gF, 9, none⟩ (.slice a5 m5 c5)) (w.heap.size + 1) [.int .i64 n0, .int .i64 n1, .int .i64 n2, .int .i64 n3, .int .i64 n4, .int .i64 n5] := fun i u hu => (World.cell?_setCell_other w5 ⟨gF, 9, none⟩ ⟨w.heap.size + 1, i, none⟩ _ (fun e => by injection e with e; omega)).trans (hr5 i u hu)
          have hbw7 := hbw5.setCell (p := ⟨gF, 9, none⟩) (by simp only; omega) (.slice a5 m5 c5)
          have hvi7 : Hv.Is ⟨F.base, F.cap, F.to, F.cyc, F.scan, ⟨a1, l1, c1⟩, ⟨a2, l2, c2⟩, ⟨a3, l3, c3⟩, ⟨a4, l4, c4⟩, ⟨a5, l5, c5⟩⟩ (w5.setCell ⟨gF, 9, none⟩ (.slice a5 m5 c5)) F := hvi.below hbw7
          clear hmin hsl d9 hfr e9 zv zF5 nBF hk5 hr5 hvi5 hbw5 hb hv5
          obtain ⟨W7, hW7⟩ : ∃ W, W = w5.setCell ⟨gF, 9, none⟩ (.slice a5 m5 c5) := ⟨_, rfl⟩
          rw [← hW7] at hk7 hr7 hbw7 hvi7 ⊢
          clear hW7
          obtain ⟨gB, hgB⟩ : ∃ g, g = w.heap.size + 1 := ⟨_, rfl⟩
          rw [← hgB] at hr7 ⊢
          clear hgB
          have d0 := blk_cell hk7 0
          have d1 := blk_cell hk7 1
          have d2 := blk_cell hk7 2
          have d3 := blk_cell hk7 3
          have d4 := blk_cell hk7 4
          have d5 := blk_cell hk7 5
          have d6 := blk_cell hk7 6
          have d7 := blk_cell hk7 7
          have d8 := blk_cell hk7 8
          have d9 := blk_cell hk7 9
          simp only [List.getElem?_toArray, List.getElem?_cons_zero, List.getElem?_cons_succ] at d0 d1 d2 d3 d4 d5 d6 d7 d8 d9
          have e0 := hr7 0 _ rfl
          have e1 := hr7 1 _ rfl
          have e2 := hr7 2 _ rfl
          have e3 := hr7 3 _ rfl
          have e4 := hr7 4 _ rfl
          have e5 := hr7 5 _ rfl
          clear hk7 hr7
          go_region_held3 (fun w' => Below W7.heap.size W7 w' ∧ w'.cell? ⟨gF, 0, none⟩ = some (.int .u64 F.base) ∧ w'.cell? ⟨gF, 1, none⟩ = some (.int .i64 F.cap) ∧ w'.cell? ⟨gF, 2, none⟩ = some (.int .i64 F.to) ∧ w'.cell? ⟨gF, 3, none⟩ = some (.bool F.cyc) ∧ w'.cell? ⟨gF, 4, none⟩ = some (.int .i64 F.scan) ∧ w'.cell? ⟨gF, 5, none⟩ = some (.slice a1 m1 c1) ∧ w'.cell? ⟨gF, 6, none⟩ = some (.slice a2 m2 c2) ∧ w'.cell? ⟨gF, 7, none⟩ = some (.slice a3 m3 c3) ∧ w'.cell? ⟨gF, 8, none⟩ = some (.slice a4 m4 c4) ∧ w'.cell? ⟨gF, 9, none⟩ = some (.slice a5 m5 c5) ∧ w'.cell? ⟨gB, 0, none⟩ = some (.int .i64 n0) ∧ w'.cell? ⟨gB, 1, none⟩ = some (.int .i64 n1) ∧ w'.cell? ⟨gB, 2, none⟩ = some (.int .i64 n2) ∧ w'.cell? ⟨gB, 3, none⟩ = some (.int .i64 n3) ∧ w'.cell? ⟨gB, 4, none⟩ = some (.int .i64 n4) ∧ w'.cell? ⟨gB, 5, none⟩ = some (.int .i64 n5))
            ((go_split_ands; refine ⟨?_, ?_, ?_, ?_, ?_, ?_, ?_, ?_, ?_, ?_, ?_, ?_, ?_, ?_, ?_, ?_, ?_⟩ <;> first | assumption | exact Below.drew (bl_refl _) | exact bl_alloc (by assumption) _ | exact cells_keep2 (by assumption) (bl_alloc (bl_refl _) _) | exact bl_step (by assumption) hB | exact cells_keep2 (by assumption) hB | (simp [go_sem, *]; done) | fail "not kept"))
            ((first
              | (go_at_call 35; (with_reducible refine (HHP.out _ ?_).mono ?_); exact HRD.out.below (bl_step hbw7 ((by assumption : Below W7.heap.size W7 _ ∧ _).1)); intro e wa hr; obtain ⟨u7, rfl, hu7, hB⟩ := hr.x)
              | fail "no contract fits"))
          obtain ⟨hbS, _⟩ := (by assumption : Below W7.heap.size W7 _ ∧ _)
          have hq8 : ∀ k : Nat, k < 2 → ∃ (q : Hv) (Q : Hp), q.Is (wa.alloc (.cells #[.int .u64 F.base, .int .i64 F.cap, .int .i64 F.to, .bool F.cyc, .int .i64 F.scan, .slice a1 m1 c1, .slice a2 m2 c2, .slice a3 m3 c3, .slice a4 m4 c4, .slice a5 m5 c5, .int .u64 u7.base, .int .i64 u7.cap, .int .i64 u7.tu, .bool u7.cyc, .int .i64 u7.scan, .slice u7.low.a u7.low.n u7.low.c, .slice u7.high.a u7.high.n u7.high.c, .slice u7.old.a u7.old.n u7.old.c, .slice u7.far.a u7.far.n u7.far.c, .slice u7.roots.a u7.roots.n u7.roots.c] 50)) Q ∧ Q.lay.Wf ∧ (Q.low.length ≤ 40 ∧ Q.high.length ≤ 40 ∧ Q.old.length ≤ 40 ∧ Q.far.length ≤ 40 ∧ Q.roots.length ≤ 40) ∧ HeapOff (wa.alloc (.cells #[.int .u64 F.base, .int .i64 F.cap, .int .i64 F.to, .bool F.cyc, .int .i64 F.scan, .slice a1 m1 c1, .slice a2 m2 c2, .slice a3 m3 c3, .slice a4 m4 c4, .slice a5 m5 c5, .int .u64 u7.base, .int .i64 u7.cap, .int .i64 u7.tu, .bool u7.cyc, .int .i64 u7.scan, .slice u7.low.a u7.low.n u7.low.c, .slice u7.high.a u7.high.n u7.high.c, .slice u7.old.a u7.old.n u7.old.c, .slice u7.far.a u7.far.n u7.far.c, .slice u7.roots.a u7.roots.n u7.roots.c] 50)) wa.heap.size (k * 10) q := fun k hk => by
            have hc := fun i => blk_cell (heap_alloc_new wa (.cells #[.int .u64 F.base, .int .i64 F.cap, .int .i64 F.to, .bool F.cyc, .int .i64 F.scan, .slice a1 m1 c1, .slice a2 m2 c2, .slice a3 m3 c3, .slice a4 m4 c4, .slice a5 m5 c5, .int .u64 u7.base, .int .i64 u7.cap, .int .i64 u7.tu, .bool u7.cyc, .int .i64 u7.scan, .slice u7.low.a u7.low.n u7.low.c, .slice u7.high.a u7.high.n u7.high.c, .slice u7.old.a u7.old.n u7.old.c, .slice u7.far.a u7.far.n u7.far.c, .slice u7.roots.a u7.roots.n u7.roots.c] 50)) i
            obtain rfl | rfl : k = 0 ∨ k = 1 := by omega
            · obtain ⟨i0, i1, i2, i3, i4, i5⟩ := hvi7.below hbS
              have j1 := i1.cut 12
              have j2 := i2.cut 12
              have j3 := i3.cut 12
              have j4 := i4.cut 12
              have j5 := i5.cut 20
              obtain ⟨hm1, hm2, hm3, hm4, hm5⟩ := HM.out
              simp only [Sl.cut] at j1 j2 j3 j4 j5
              rw [← hm1] at j1
              rw [← hm2] at j2
              rw [← hm3] at j3
              rw [← hm4] at j4
              rw [← hm5] at j5
              have hVL := HVL.out
              refine ⟨⟨F.base, F.cap, F.to, F.cyc, F.scan, ⟨a1, m1, c1⟩, ⟨a2, m2, c2⟩, ⟨a3, m3, c3⟩, ⟨a4, m4, c4⟩, ⟨a5, m5, c5⟩⟩, ⟨F.base, F.cap, F.to, F.cyc, F.scan, F.low.take 12, F.high.take 12, F.old.take 12, F.far.take 12, F.roots.take 20⟩, ⟨i0, j1, j2, j3, j4, j5⟩, ?_, ?_, hc 0, hc 1, hc 2, hc 3, hc 4, hc 5, hc 6, hc 7, hc 8, hc 9⟩
              · simp only [Lay.Wf, Hp.lay, List.length_take]; omega
              · simp only [List.length_take]; omega
            · exact ⟨u7, H, (hu7.below (bl_alloc (bl_refl wa) _)), ok_wf HOK.out, ⟨k1, k2, k3, k4, k5⟩, hc 10, hc 11, hc 12, hc 13, hc 14, hc 15, hc 16, hc 17, hc 18, hc 19⟩
          have hbw8 := bl_step hbw7 hbS
          have HQ8 := Lib.hid hq8
          clear hq8
          go_wp2_with fail
          obtain ⟨W8, hW8⟩ : ∃ W, W = wa.alloc (.cells #[.int .u64 F.base, .int .i64 F.cap, .int .i64 F.to, .bool F.cyc, .int .i64 F.scan, .slice a1 m1 c1, .slice a2 m2 c2, .slice a3 m3 c3, .slice a4 m4 c4, .slice a5 m5 c5, .int .u64 u7.base, .int .i64 u7.cap, .int .i64 u7.tu, .bool u7.cyc, .int .i64 u7.scan, .slice u7.low.a u7.low.n u7.low.c, .slice u7.high.a u7.high.n u7.high.c, .slice u7.old.a u7.old.n u7.old.c, .slice u7.far.a u7.far.n u7.far.c, .slice u7.roots.a u7.roots.n u7.roots.c] 50) := ⟨_, rfl⟩
          rw [← hW8] at HQ8 hbw8 ⊢
          obtain ⟨gL, hgL⟩ : ∃ g, g = wa.heap.size := ⟨_, rfl⟩
          rw [← hgL] at HQ8 ⊢
          clear hW8 hgL hu7 hB hbS hbw7 hvi7 d0 d1 d2 d3 d4 d5 d6 d7 d8 d9 e0 e1 e2 e3 e4 e5 HHP HRD HVL HOK HM
          obtain ⟨ad1, ad2⟩ := HAD.out
          go_loopw [117] (fun i wr => HTL 2 W8 i wr) (fun i _ => 2 - (intOf i).toNat)
          case atStart => exact ⟨0, by omega, rfl, bl_refl _⟩
          case round =>
            obtain ⟨k, hk, rfl, hb⟩ := hrel
            have hbw9 := bl_step hbw8 hb
            obtain ⟨w9, rfl⟩ : ∃ w : World, w = wr := ⟨_, rfl⟩
            by_cases hlt : k < 2
            · obtain ⟨q, Q, hqi, wq, ⟨kq1, kq2, kq3, kq4, kq5⟩, hoff⟩ := HQ8.out k hlt
              obtain ⟨ub, uc, ut, uy, us_, low, high, old, far, roots⟩ := q
              obtain ⟨e1, e2, e3, e4, e5⟩ := hqi.1
              simp only at e1 e2 e3 e4 e5
              subst e1 e2 e3 e4 e5
              have hqi9 := hqi.below hb
              have hoff9 := hoff.below hb
              have HL1 := Lib.hid fun W => hlayout_any ⟨Q.base, Q.cap, Q.to, Q.cyc, Q.scan, low, high, old, far, roots⟩ W
              have HL2 := Lib.hid fun W => rhlayout_any ⟨Q.base, Q.cap, Q.to, Q.cyc, Q.scan, low, high, old, far, roots⟩ W
              have HOW := Lib.hid fun W (a : Hv.Is ⟨Q.base, Q.cap, Q.to, Q.cyc, Q.scan, low, high, old, far, roots⟩ W Q) => (own_any ⟨Q.base, Q.cap, Q.to, Q.cyc, Q.scan, low, high, old, far, roots⟩ Q W a (by omega) (by omega) (by omega) (by omega) (by omega)).mono fun e w' h => OwnRet.x a h
              have HSM := Lib.hid fun (u : Hv) W (a : u.Is W Q) (c : Hv.Is ⟨Q.base, Q.cap, Q.to, Q.cyc, Q.scan, low, high, old, far, roots⟩ W Q) => same_any u ⟨Q.base, Q.cap, Q.to, Q.cyc, Q.scan, low, high, old, far, roots⟩ Q W a c
              have HR1 := Lib.hid fun y W (a : Hv.Is ⟨Q.base, Q.cap, Q.to, Q.cyc, Q.scan, low, high, old, far, roots⟩ W Q) b c => read_any ⟨Q.base, Q.cap, Q.to, Q.cyc, Q.scan, low, high, old, far, roots⟩ Q y W a wq b c
              have HR2 := Lib.hid fun y W (a : Hv.Is ⟨Q.base, Q.cap, Q.to, Q.cyc, Q.scan, low, high, old, far, roots⟩ W Q) b c => rread_any ⟨Q.base, Q.cap, Q.to, Q.cyc, Q.scan, low, high, old, far, roots⟩ Q y W a wq b c
              have HW1 := Lib.hid fun y W (a : Hv.Is ⟨Q.base, Q.cap, Q.to, Q.cyc, Q.scan, low, high, old, far, roots⟩ W Q) b c => write_any ⟨Q.base, Q.cap, Q.to, Q.cyc, Q.scan, low, high, old, far, roots⟩ Q y xw W a wq b c (by omega) (by omega) (by omega) (by omega) (by omega)
              have HW2 := Lib.hid fun y W (a : Hv.Is ⟨Q.base, Q.cap, Q.to, Q.cyc, Q.scan, low, high, old, far, roots⟩ W Q) b c => rwrite_any ⟨Q.base, Q.cap, Q.to, Q.cyc, Q.scan, low, high, old, far, roots⟩ Q y xw W a wq b c (by omega) (by omega) (by omega) (by omega)
              have hqb : 0 ≤ Q.base ∧ Q.base < 18446744073709551616 := wq.1
              obtain ⟨qb1, qb2⟩ := hqb
              have hg9 := HeapAt.lit w9 ⟨Q.base, Q.cap, Q.to, Q.cyc, Q.scan, low, high, old, far, roots⟩ 50
              have hqi9 := hqi9.below (bl_alloc (bl_refl w9) (.cells (Hv.cells ⟨Q.base, Q.cap, Q.to, Q.cyc, Q.scan, low, high, old, far, roots⟩) 50))
              have hbw9 := bl_alloc hbw9 (.cells (Hv.cells ⟨Q.base, Q.cap, Q.to, Q.cyc, Q.scan, low, high, old, far, roots⟩) 50)
              have hb9 := bl_alloc hb (.cells (Hv.cells ⟨Q.base, Q.cap, Q.to, Q.cyc, Q.scan, low, high, old, far, roots⟩) 50)
              simp only [Hv.cells, Sl.v, Lay.cells, Hv.lay] at HL1 HL2 HOW HSM HR1 HR2 HW1 HW2 hg9 hqi9 hbw9 hb9
              obtain ⟨c0, c1', c2', c3', c4', c5', c6, c7, c8, c9⟩ := id hoff9
              simp only at c0 c1' c2' c3' c4' c5' c6 c7 c8 c9
              clear hqi hoff hoff9 wq hb
              go_wp2_with fail
              clear c0 c1' c2' c3' c4' c5' c6 c7 c8 c9
              obtain ⟨W9, hW9⟩ : ∃ W, W = w9.alloc (.cells #[.int .u64 Q.base, .int .i64 Q.cap, .int .i64 Q.to, .bool Q.cyc, .int .i64 Q.scan, .slice low.a low.n low.c, .slice high.a high.n high.c, .slice old.a old.n old.c, .slice far.a far.n far.c, .slice roots.a roots.n roots.c] 50) := ⟨_, rfl⟩
              rw [← hW9] at hg9 hqi9 hbw9 hb9 ⊢
              obtain ⟨gh, hgh⟩ : ∃ g, g = w9.heap.size := ⟨_, rfl⟩
              rw [← hgh] at hg9 ⊢
              clear hW9 hgh
              obtain ⟨c0, c1', c2', c3', c4', c5', c6, c7, c8, c9⟩ := id hg9
              simp only at c0 c1' c2' c3' c4' c5' c6 c7 c8 c9
              have HQI := Lib.hid hqi9
              have HG := Lib.hid hg9
              clear hqi9 hg9
              go_region_held3 (fun w' => Below W9.heap.size W9 w' ∧ w'.cell? ⟨gh, 0, none⟩ = some (.int .u64 Q.base) ∧ w'.cell? ⟨gh, 1, none⟩ = some (.int .i64 Q.cap) ∧ w'.cell? ⟨gh, 2, none⟩ = some (.int .i64 Q.to) ∧ w'.cell? ⟨gh, 3, none⟩ = some (.bool Q.cyc) ∧ w'.cell? ⟨gh, 4, none⟩ = some (.int .i64 Q.scan) ∧ w'.cell? ⟨gh, 5, none⟩ = some (.slice low.a low.n low.c) ∧ w'.cell? ⟨gh, 6, none⟩ = some (.slice high.a high.n high.c) ∧ w'.cell? ⟨gh, 7, none⟩ = some (.slice old.a old.n old.c) ∧ w'.cell? ⟨gh, 8, none⟩ = some (.slice far.a far.n far.c) ∧ w'.cell? ⟨gh, 9, none⟩ = some (.slice roots.a roots.n roots.c))
                ((go_split_ands; refine ⟨?_, ?_, ?_, ?_, ?_, ?_, ?_, ?_, ?_, ?_, ?_⟩ <;> first | assumption | exact Below.drew (bl_refl _) | exact bl_alloc (by assumption) _ | exact cells_keep2 (by assumption) (bl_alloc (bl_refl _) _) | exact bl_step (by assumption) hB | exact cells_keep2 (by assumption) hB | (simp [go_sem, *]; done) | fail "not kept"))
                ((first
                  | (go_at_call 36; (with_reducible refine (HL1.out _).mono ?_); intro e wa hr; obtain ⟨rfl, hB⟩ := hr.both)
                  | (go_at_call 37; (with_reducible refine (HL2.out _).mono ?_); intro e wa hr; obtain ⟨rfl, hB⟩ := hr.both)
                  | (go_at_call 38; (with_reducible refine (HOW.out _ ?_).mono ?_); exact HQI.out.below ((by assumption : Below W9.heap.size W9 _ ∧ _).1); intro e wa hr; obtain ⟨o, rfl, ho, hB⟩ := hr)
                  | (go_at_call 32; (with_reducible refine (HSM.out o _ ho ?_).mono ?_); exact HQI.out.below ((by assumption : Below W9.heap.size W9 _ ∧ _).1); intro e wz hr; obtain ⟨rfl, hB⟩ := hr.both)
                  | fail "no contract fits"))
              obtain ⟨hbS, d0, d1, d2, d3, d4, d5, d6, d7, d8, d9⟩ := (by assumption : Below W9.heap.size W9 wz ∧ _)
              clear c0 c1' c2' c3' c4' c5' c6 c7 c8 c9 HL1 HL2 HOW
              have hm1 : 0 ≤ adr % 90 ∧ adr % 90 < 90 := ⟨Int.emod_nonneg _ (by omega), Int.emod_lt_of_pos _ (by omega)⟩
              have hm2 : 0 ≤ adr % 5 ∧ adr % 5 < 5 := ⟨Int.emod_nonneg _ (by omega), Int.emod_lt_of_pos _ (by omega)⟩
              obtain ⟨m11, m12⟩ := hm1
              obtain ⟨m21, m22⟩ := hm2
              obtain ⟨Y2, hY2⟩ : ∃ Y, Y = IntKind.u64.wrap (Q.base + adr % 90) := ⟨_, rfl⟩
              obtain ⟨Y3, hY3⟩ : ∃ Y, Y = IntKind.u64.wrap (Q.base - adr % 5) := ⟨_, rfl⟩
              have y2b : 0 ≤ Y2 ∧ Y2 < 18446744073709551616 := by rw [hY2, IntKind.wrap_u64]; omega
              have y3b : 0 ≤ Y3 ∧ Y3 < 18446744073709551616 := by rw [hY3, IntKind.wrap_u64]; omega
              replace hY2 := hY2.symm
              replace hY3 := hY3.symm
              have hYY : ∀ k : Nat, k < 3 → ∃ Y : Int, 0 ≤ Y ∧ Y < 18446744073709551616 ∧ (wz.alloc (.cells #[.int .u64 adr, .int .u64 Y2, .int .u64 Y3] 22)).cell? ⟨wz.heap.size, k, none⟩ = some (.int .u64 Y) := fun k hk => by
                have hc := fun i => blk_cell (heap_alloc_new wz (.cells #[.int .u64 adr, .int .u64 Y2, .int .u64 Y3] 22)) i
                obtain rfl | rfl | rfl : k = 0 ∨ k = 1 ∨ k = 2 := by omega
                · exact ⟨adr, ad1, ad2, hc 0⟩
                · exact ⟨Y2, y2b.1, y2b.2, hc 1⟩
                · exact ⟨Y3, y3b.1, y3b.2, hc 2⟩
              have HYY := Lib.hid hYY
              have hg10 := (HG.out.below hbS).alloc (.cells #[.int .u64 adr, .int .u64 Y2, .int .u64 Y3] 22)
              have hq10 := (HQI.out.below hbS).below (bl_alloc (bl_refl wz) (.cells #[.int .u64 adr, .int .u64 Y2, .int .u64 Y3] 22))
              have hbw10 := bl_alloc (bl_step hbw9 hbS) (.cells #[.int .u64 adr, .int .u64 Y2, .int .u64 Y3] 22)
              have hb10 := bl_alloc (bl_step hb9 hbS) (.cells #[.int .u64 adr, .int .u64 Y2, .int .u64 Y3] 22)
              clear hYY y2b y3b hbS HG HQI hbw9 hb9
              go_wp2_with fail
              clear hY2 hY3 d0 d1 d2 d3 d4 d5 d6 d7 d8 d9 m11 m12 m21 m22
              obtain ⟨W10, hW10⟩ : ∃ W, W = wz.alloc (.cells #[.int .u64 adr, .int .u64 Y2, .int .u64 Y3] 22) := ⟨_, rfl⟩
              rw [← hW10] at HYY hg10 hq10 hbw10 hb10 ⊢
              obtain ⟨g3, hg3⟩ : ∃ g, g = wz.heap.size := ⟨_, rfl⟩
              rw [← hg3] at HYY ⊢
              clear hW10 hg3
              go_loopw [146] (fun i wr => HTL 3 W10 i wr) (fun i _ => 3 - (intOf i).toNat)
              case atStart => exact ⟨0, by omega, rfl, bl_refl _⟩
              case round =>
                obtain ⟨k3, hk3, rfl, hb⟩ := hrel
                obtain ⟨w11, rfl⟩ : ∃ w : World, w = wr := ⟨_, rfl⟩
                by_cases hlt3 : k3 < 3
                · obtain ⟨Y, hy1, hy2, hcY⟩ := HYY.out k3 hlt3
                  have gY := cells_keep2 hcY hb
                  have hg11 := hg10.below hb
                  have hq11 := hq10.below hb
                  have h1 := fun W a => HR1.out Y W a hy1 hy2
                  have h2 := fun W a => HR2.out Y W a hy1 hy2
                  have h3 := fun W a => HW1.out Y W a hy1 hy2
                  have h4 := fun W a => HW2.out Y W a hy1 hy2
                  obtain ⟨D, hD⟩ : ∃ D, D = rdW Q Y := ⟨_, rfl⟩
                  obtain ⟨E, hE⟩ : ∃ E, E = fndE Q.lay Y := ⟨_, rfl⟩
                  obtain ⟨X, hX⟩ : ∃ X, X = wrR Q Y xw := ⟨_, rfl⟩
                  rw [← hD, ← hE] at h1 h2
                  rw [← hX, ← hE] at h3 h4
                  have h1' := Lib.hid h1
                  have h2' := Lib.hid h2
                  have h3' := Lib.hid h3
                  have h4' := Lib.hid h4
                  obtain ⟨c0, c1', c2', c3', c4', c5', c6, c7, c8, c9⟩ := id hg11
                  simp only at c0 c1' c2' c3' c4' c5' c6 c7 c8 c9
                  clear h1 h2 h3 h4 hD hE hX hcY
                  go_wp2_with fail
                  refine (h1'.out _ hq11).mono ?_
                  intro e w12 hr
                  obtain ⟨rfl, hb12⟩ := hr.both
                  have hg12 := hg11.below hb12
                  have hq12 := hq11.below hb12
                  have hb := bl_step hb hb12
                  clear c0 c1' c2' c3' c4' c5' c6 c7 c8 c9 hr hg11 hq11 hb12 gY
                  obtain ⟨c0, c1', c2', c3', c4', c5', c6, c7, c8, c9⟩ := id hg12
                  simp only at c0 c1' c2' c3' c4' c5' c6 c7 c8 c9
                  go_wp2_with fail
                  refine (h2'.out _ hq12).mono ?_
                  intro e w13 hr
                  obtain ⟨rfl, hb13⟩ := hr.both
                  have hg13 := hg12.below hb13
                  have hq13 := hq12.below hb13
                  have hb := bl_step hb hb13
                  clear c0 c1' c2' c3' c4' c5' c6 c7 c8 c9 hr hg12 hq12 hb13
                  obtain ⟨c0, c1', c2', c3', c4', c5', c6, c7, c8, c9⟩ := id hg13
                  simp only at c0 c1' c2' c3' c4' c5' c6 c7 c8 c9
                  go_wp2_with fail
                  refine (h3'.out _ hq13).mono ?_
                  intro e w14 hr
                  obtain ⟨u1, rfl, hu14, hb14⟩ := hr
                  have hg14 := (hg13.below hb14).alloc (.cells u1.cells 50)
                  have hq14 := (hq13.below hb14).below (bl_alloc (bl_refl w14) (.cells u1.cells 50))
                  have hu14 := hu14.below (bl_alloc (bl_refl w14) (.cells u1.cells 50))
                  have hh14 := HeapAt.lit w14 u1 50
                  have hb := bl_alloc (bl_step hb hb14) (.cells u1.cells 50)
                  have hgw := hg13.below hb14
                  simp only [Hv.cells, Sl.v] at hg14 hq14 hu14 hh14 hb ⊢
                  clear c0 c1' c2' c3' c4' c5' c6 c7 c8 c9 hg13 hq13 hb14
                  obtain ⟨c0, c1', c2', c3', c4', c5', c6, c7, c8, c9⟩ := id hgw
                  simp only at c0 c1' c2' c3' c4' c5' c6 c7 c8 c9
                  have zz : gh < w14.heap.size := World.block_lt_of_cell? _ _ c0
                  go_wp2_with fail
                  refine (h4'.out _ hq14).mono ?_
                  intro e w15 hr
                  obtain ⟨u2, rfl, hu15, hb15⟩ := hr
                  have hu14 := (hu14.below hb15).below (bl_alloc (bl_refl w15) (.cells u2.cells 50))
                  have hu15 := hu15.below (bl_alloc (bl_refl w15) (.cells u2.cells 50))
                  have hh15 := hh14.below hb15
                  have hb := bl_alloc (bl_step hb hb15) (.cells u2.cells 50)
                  have HS := same_any u1 u2 X _ hu14 hu15
                  simp only [Hv.cells, Sl.v] at hb HS ⊢
                  clear c0 c1' c2' c3' c4' c5' c6 c7 c8 c9 hg14 hq14 hgw hh14 hb15 zz
                  obtain ⟨c0, c1', c2', c3', c4', c5', c6, c7, c8, c9⟩ := id hh15
                  have zz : w14.heap.size < w15.heap.size := World.block_lt_of_cell? _ _ c0
                  go_wp2_with fail
                  refine HS.mono ?_
                  intro e w16 hr
                  obtain ⟨rfl, hb16⟩ := hr.both
                  clear c0 c1' c2' c3' c4' c5' c6 c7 c8 c9 HS
                  go_wp2
                  exact ⟨⟨k3 + 1, by omega, by go_num, bl_step hb hb16⟩, by simp [intOf]; omega⟩
                · go_wp2
                  exact ⟨⟨k + 1, by omega, by go_num, bl_step hb10 hb⟩, by simp [intOf]; omega⟩
            · go_wp2
              go_ret
              exact ⟨rfl, hbw9⟩
end Go.Proofs.Ytappejihclmjmaa
