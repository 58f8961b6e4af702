/-
  HeapWords: the walk of the law. Conditions: integers that fit.
-/
import Derived.Test.YtappejihclmjmaaHK
import Derived.Test.YtappejihclmjmaaPFlip
namespace Go.Proofs.Ytappejihclmjmaa
open Go.RowKit
attribute [local go_sem ↓] Go.wp_at_zero Go.wp_at_succ

theorem wr_lens (h : Hp) (y : Int) (x : Nat) (hk : fndK h.lay y ≠ 0) : (wrH h y x).low.length = h.low.length ∧ (wrH h y x).high.length = h.high.length ∧ (wrH h y x).old.length = h.old.length ∧ (wrH h y x).far.length = h.far.length ∧ (wrH h y x).roots = h.roots := by
  have hl := wr_lay h y x hk
  have h1 := congrArg Lay.low hl
  have h2 := congrArg Lay.high hl
  have h3 := congrArg Lay.old hl
  have h4 := congrArg Lay.far hl
  simp only [Hp.lay] at h1 h2 h3 h4
  refine ⟨by omega, by omega, by omega, by omega, ?_⟩
  unfold wrH Hp.with
  split <;> rfl
theorem fndE_none (l : Lay) (y : Int) (hok : l.Ok) (h : fndK l y = 0) : fndE l y = 6 := by rw [fndE, if_pos hok, if_pos h]
theorem fndE_some (l : Lay) (y : Int) (hok : l.Ok) (h : fndK l y ≠ 0) : fndE l y = 0 := by rw [fndE, if_pos hok, if_neg h]
def HWRel (c : Int) (w : World) (i : Value) (wr : World) : Prop := ∃ k : Int, 0 ≤ k ∧ k ≤ 2 * c ∧ i = .int .i64 k ∧ Below w.heap.size w wr

set_option maxRecDepth 100000 in
set_option maxHeartbeats 4000000 in
theorem hwords_walk (b n0 n1 n2 n3 n4 n5 : Int) (A : Option Addr) (ws : List Nat) (cap : Nat) (at0 : Int) (xw : Nat) (w : World) (hb : 0 ≤ b ∧ b < 18446744073709551616) (g0 : -9223372036854775808 ≤ n0 ∧ n0 ≤ 9223372036854775807) (g1 : -9223372036854775808 ≤ n1 ∧ n1 ≤ 9223372036854775807) (g2 : -9223372036854775808 ≤ n2 ∧ n2 ≤ 9223372036854775807) (g3 : -9223372036854775808 ≤ n3 ∧ n3 ≤ 9223372036854775807) (g4 : -9223372036854775808 ≤ n4 ∧ n4 ≤ 9223372036854775807) (g5 : -9223372036854775808 ≤ n5 ∧ n5 ≤ 9223372036854775807)
    (hr : Rd w A (us ws)) (hc : ws.length ≤ cap) (hm : cap ≤ 9223372036854775807) (hv : ∀ x ∈ ws, x < 18446744073709551616) (hat : -9223372036854775808 ≤ at0 ∧ at0 ≤ 9223372036854775807) (hx : xw < 18446744073709551616) :
    Calls Try.prog 10 #[.int .u64 b, .agg #[.int .i64 n0, .int .i64 n1, .int .i64 n2, .int .i64 n3, .int .i64 n4, .int .i64 n5], .slice A ws.length cap, .int .i64 at0, .int .u64 (xw : Int)] w (RetTrue w) := by
  have HHP := Lib.hid fun W (a : Rd W A (us ws)) => heap_any b n0 n1 n2 n3 n4 n5 A ws cap W hb g0 g1 g2 g3 g4 g5 a (by omega) hv
  have hok := layOf_ok b n0 n1 n2 n3 n4 n5
  obtain ⟨l, hl⟩ : ∃ l, l = layOf b n0 n1 n2 n3 n4 n5 := ⟨_, rfl⟩
  rw [← hl] at HHP hok
  clear hl hb g0 g1 g2 g3 g4 g5
  obtain ⟨hok, hcap⟩ := hok
  have hll := hpL_lay l ws hok
  rw [← hll] at hok hcap
  have hrl : (hpL l ws).roots.length = 3 := smOf_len _ _ _
  obtain ⟨H, hH⟩ : ∃ H, H = hpL l ws := ⟨_, rfl⟩
  rw [← hH] at HHP hok hcap hrl
  have HRD := Lib.hid hr
  clear hH hll l hr hv
  have q1 : 1 ≤ H.base := hok.1
  have q2 : 0 ≤ H.cap := hok.2.1
  have q3 : H.cap ≤ 40 := hcap
  have q4 : H.base + 2 * H.cap ≤ 9223372036854775808 := hok.2.2.2.1
  have q5 : (H.low.length : Int) + H.high.length ≤ H.cap ∧ (H.old.length : Int) + H.far.length ≤ H.cap := by
    obtain ⟨_, _, _, _, _, _, _, c, _, _, f⟩ := hok
    exact ⟨c, f⟩
  have k1 : H.low.length ≤ 40 := by omega
  have k2 : H.high.length ≤ 40 := by omega
  have k3 : H.old.length ≤ 40 := by omega
  have k4 : H.far.length ≤ 40 := by omega
  have k5 : H.roots.length ≤ 40 := by omega
  clear q5 hrl hcap
  have HOK := Lib.hid hok
  clear hok
  go_enter Try.func10, Try.ntmps10
  go_wp2_with fail
  refine (awake10_any _).mono ?_
  intro e w1 hr1
  obtain ⟨rfl, x, rfl⟩ := hr1.later
  have hb1 : Below w.heap.size w x.w := bl_step (bl_alloc (bl_refl w) _) x.below
  clear hr1
  go_wp2_with fail
  refine (HHP.out _ (HRD.out.below hb1)).mono ?_
  intro e w2 hr2
  obtain ⟨u, rfl, hu2, hb2⟩ := hr2
  obtain ⟨ub, uc, ut, uy, us_, low, high, old, far, roots⟩ := u
  obtain ⟨e1, e2, e3, e4, e5⟩ := hu2.1
  simp only at e1 e2 e3 e4 e5
  subst e1 e2 e3 e4 e5
  have hg2 := HeapAt.lit w2 ⟨H.base, H.cap, H.to, H.cyc, H.scan, low, high, old, far, roots⟩ 50
  have hu3 := hu2.below (bl_alloc (bl_refl w2) (.cells (Hv.cells ⟨H.base, H.cap, H.to, H.cyc, H.scan, low, high, old, far, roots⟩) 50))
  have hbw3 := bl_alloc (bl_step hb1 hb2) (.cells (Hv.cells ⟨H.base, H.cap, H.to, H.cyc, H.scan, low, high, old, far, roots⟩) 50)
  simp only [Hv.cells, Sl.v] at hg2 hu3 hbw3 ⊢
  clear hu2 hb2 hb1
  by_cases hz : H.cap = 0
  · have hzb : (H.cap == 0) = true := beq_iff_eq.2 hz
    clear hz
    go_wp2_with fail
    go_ret
    exact ⟨rfl, hbw3⟩
  have hzb : (H.cap == 0) = false := beq_eq_false_iff_ne.2 hz
  have q6 : 1 ≤ H.cap := by omega
  clear hz
  have hpb := pickI_b at0 (2 * H.cap) (by omega)
  have HPp := Lib.hid fun W => pick10_any at0 (2 * H.cap) W hat.1 hat.2 (by omega) (by omega)
  obtain ⟨p, hpe⟩ : ∃ p, p = pickI at0 (2 * H.cap) := ⟨_, rfl⟩
  rw [← hpe] at hpb HPp
  obtain ⟨hp0, hp1⟩ := hpb
  clear hpe hat
  go_wp2_with fail
  obtain ⟨W3, hW3⟩ : ∃ W, W = w2.alloc (.cells #[.int .u64 H.base, .int .i64 H.cap, .int .i64 H.to, .bool H.cyc, .int .i64 H.scan, .slice low.a low.n low.c, .slice high.a high.n high.c, .slice old.a old.n old.c, .slice far.a far.n far.c, .slice roots.a roots.n roots.c] 50) := ⟨_, rfl⟩
  rw [← hW3] at hg2 hu3 hbw3 ⊢
  obtain ⟨g, hg⟩ : ∃ g, g = w2.heap.size := ⟨_, rfl⟩
  rw [← hg] at hg2 ⊢
  clear hW3 hg x
  obtain ⟨c0, c1, c2, c3, c4, c5, c6, c7, c8, c9⟩ := id hg2
  simp only at c0 c1 c2 c3 c4 c5 c6 c7 c8 c9
  have zg : g < W3.heap.size := World.block_lt_of_cell? _ _ c0
  have ew1 : IntKind.i64.wrap (2 * H.cap) = 2 * H.cap := IntWalk.i64_in _ (by omega)
  have ew2 : IntKind.u64.wrap p = p := IntWalk.u64_in _ (by omega)
  have ew3 : IntKind.u64.wrap (H.base + p) = H.base + p := IntWalk.u64_in _ (by omega)
  refine wp_region_later (by kernel_rfl) (by kernel_rfl) ?_
  repeat (go_big_quiet_step ((with_reducible exact later_same (HPp.out _))))
  refine wpQuiet_nil ?_
  intro _ hw'
  obtain ⟨x4, hw''⟩ := hw'
  subst hw''
  clear ew1 ew2 ew3
  go_wp2_with fail
  obtain ⟨y, hye⟩ : ∃ y, y = H.base + p := ⟨_, rfl⟩
  have y0 : 0 ≤ y := by omega
  have y1 : y < 18446744073709551616 := by omega
  have hok := HOK.out
  have HR1 := Lib.hid fun (c : Int) (W : World) (a : Hv.Is ⟨H.base, H.cap, H.to, H.cyc, H.scan, low, high, old, far, roots⟩ W H) (b1 : 0 ≤ c) (b2 : c < 18446744073709551616) => read_any ⟨H.base, H.cap, H.to, H.cyc, H.scan, low, high, old, far, roots⟩ H c W a (ok_wf hok) b1 b2
  have HW1 := Lib.hid fun (W : World) (a : Hv.Is ⟨H.base, H.cap, H.to, H.cyc, H.scan, low, high, old, far, roots⟩ W H) => write_any ⟨H.base, H.cap, H.to, H.cyc, H.scan, low, high, old, far, roots⟩ H y xw W a (ok_wf hok) y0 y1 (by omega) (by omega) (by omega) (by omega) (by omega)
  have hu4 := hu3.below x4.below
  have hg4 := hg2.below x4.below
  have hbw4 := bl_step hbw3 x4.below
  simp only [Hv.cells, Sl.v] at HR1 HW1
  by_cases hf : fndK H.lay y = 0
  · have h1 := HR1.out y x4.w hu4 y0 y1
    have h2 := HW1
    rw [fndE_none _ _ hok hf] at h1 h2
    rw [rd_none _ _ (fun h => h.2 hf), show ((0 : Nat) : Int) = 0 from rfl] at h1
    clear HR1 HW1 hf HHP HPp hok
    rw [hye] at h1
    have H1 := Lib.hid h1
    rw [hye] at h2
    clear hye h1
    refine H1.out.mono ?_
    intro e w5 hr
    obtain ⟨rfl, hb5⟩ := hr.both
    have hu5 := hu4.below hb5
    have hg5 := hg4.below hb5
    have hbw5 := bl_step hbw4 hb5
    clear hr hb5 hu4 hg4 hbw4
    obtain ⟨d0, d1, d2, d3, d4, d5, d6, d7, d8, d9⟩ := id hg5
    simp only at d0 d1 d2 d3 d4 d5 d6 d7 d8 d9
    go_wp2_with fail
    refine (h2.out _ hu5).mono ?_
    intro e w6 hr
    obtain ⟨u2, rfl, hu6, hb6⟩ := hr
    have hbw6 := bl_alloc (bl_step hbw5 hb6) (.cells u2.cells 50)
    simp only [Hv.cells, Sl.v] at hbw6 ⊢
    go_wp2
    go_ret
    exact ⟨rfl, hbw6⟩
  · have hl2 := wr_lay H y xw hf
    have hlens := wr_lens H y xw hf
    have hrd := rd_wr H y xw hok hf
    have hrn := fun z h => rd_wr_ne H y z xw hok hf h
    have hbk := wr_back H y xw hok hf
    have hwr : wrR H y xw = wrH H y xw := by rw [wrR, if_pos ⟨hok, hf⟩]
    have h2 := HW1
    rw [fndE_some _ _ hok hf, hwr] at h2
    obtain ⟨H2, hH2⟩ : ∃ H2, H2 = wrH H y xw := ⟨_, rfl⟩
    rw [← hH2] at hl2 hlens hrd hrn hbk h2
    have hok2 : H2.lay.Ok := by rw [hl2]; exact hok
    have hf2 : fndK H2.lay y ≠ 0 := by rw [hl2]; exact hf
    have hwb : wrR H2 y (rdW H y) = H := by rw [wrR, if_pos ⟨hok2, hf2⟩, hbk]
    obtain ⟨P, hP⟩ : ∃ P, P = rdW H y := ⟨_, rfl⟩
    have h1 := HR1.out y x4.w hu4 y0 y1
    rw [fndE_some _ _ hok hf, ← hP] at h1
    rw [← hP] at hwb
    have HR2 := Lib.hid fun (v : Hv) (c : Int) (W : World) (a : v.Is W H2) (b1 : 0 ≤ c) (b2 : c < 18446744073709551616) => read_any v H2 c W a (ok_wf hok2) b1 b2
    have HW2 := Lib.hid fun (v : Hv) (W : World) (a : v.Is W H2) => write_any v H2 y P W a (ok_wf hok2) y0 y1 (by omega) (by omega) (by omega) (by omega) (by rw [hlens.2.2.2.2]; omega)
    rw [fndE_some _ _ hok2 hf2, hwb] at HW2
    rw [hl2] at HR2
    have HL1 := Lib.hid fun (W : World) => hlayout_any ⟨H.base, H.cap, H.to, H.cyc, H.scan, low, high, old, far, roots⟩ W
    rw [hu3.lay] at HL1
    have HL2 := Lib.hid fun (v : Hv) (W : World) (a : v.Is W H2) => (show Calls Try.prog 36 #[.agg v.cells] W (RetB (.agg H.lay.cells) W) from by have := hlayout_any v W; rw [a.lay, hl2] at this; exact this)
    have HSM := Lib.hid fun (v : Hv) (W : World) (a : v.Is W H) (b : Hv.Is ⟨H.base, H.cap, H.to, H.cyc, H.scan, low, high, old, far, roots⟩ W H) => same_any v ⟨H.base, H.cap, H.to, H.cyc, H.scan, low, high, old, far, roots⟩ H W a b
    simp only [Hv.cells, Sl.v, Lay.cells] at HR2 HW2 HL1 HL2 HSM
    have HRN := Lib.hid hrn
    have HRY := Lib.hid hrd
    have HYE := Lib.hid hye
    rw [hye] at h1 h2 HW2
    clear HW1 hl2 hlens hrd hrn hbk hwr hH2 hok2 hf2 hwb hP hok hf HHP HPp y0 y1
    have H1 := Lib.hid h1
    clear h1 hye
    refine H1.out.mono ?_
    intro e w5 hr
    obtain ⟨rfl, hb5⟩ := hr.both
    have hu5 := hu4.below hb5
    have hg5 := hg4.below hb5
    have hbw5 := bl_step hbw4 hb5
    clear hr hb5 hu4 hg4 hbw4
    obtain ⟨d0, d1, d2, d3, d4, d5, d6, d7, d8, d9⟩ := id hg5
    simp only at d0 d1 d2 d3 d4 d5 d6 d7 d8 d9
    go_wp2_with fail
    refine (h2.out _ hu5).mono ?_
    intro e w6 hr
    obtain ⟨u2, rfl, hu6, hb6⟩ := hr
    have hh6 := HeapAt.lit w6 u2 50
    have hx6 := hu6.below (bl_alloc (bl_refl w6) (.cells u2.cells 50))
    have hu6 := (hu5.below hb6).below (bl_alloc (bl_refl w6) (.cells u2.cells 50))
    have hg6 := (hg5.below hb6).alloc (.cells u2.cells 50)
    have hbw6 := bl_alloc (bl_step hbw5 hb6) (.cells u2.cells 50)
    simp only [Hv.cells, Sl.v] at hh6 hx6 hu6 hg6 hbw6 ⊢
    clear hb6 hu5 hg5 hbw5 d0 d1 d2 d3 d4 d5 d6 d7 d8 d9 h2
    go_wp2_with fail
    obtain ⟨W6, hW6⟩ : ∃ W, W = w6.alloc (.cells #[.int .u64 u2.base, .int .i64 u2.cap, .int .i64 u2.tu, .bool u2.cyc, .int .i64 u2.scan, .slice u2.low.a u2.low.n u2.low.c, .slice u2.high.a u2.high.n u2.high.c, .slice u2.old.a u2.old.n u2.old.c, .slice u2.far.a u2.far.n u2.far.c, .slice u2.roots.a u2.roots.n u2.roots.c] 50) := ⟨_, rfl⟩
    rw [← hW6] at hh6 hx6 hu6 hg6 hbw6 ⊢
    obtain ⟨g2, hgg⟩ : ∃ g, g = w6.heap.size := ⟨_, rfl⟩
    rw [← hgg] at hh6 ⊢
    clear hW6 hgg c0 c1 c2 c3 c4 c5 c6 c7 c8 c9 zg hu3 hg2 hbw3 H1 x4
    go_loopw [18] (fun i wr => HWRel H.cap W6 i wr) (fun i _ => (2 * H.cap - intOf i).toNat)
    case atStart => exact ⟨0, by omega, by omega, rfl, bl_refl _⟩
    case round =>
      obtain ⟨k, hk0, hk, rfl, hb⟩ := hrel
      obtain ⟨w7, rfl⟩ : ∃ w7 : World, w7 = wr := ⟨_, rfl⟩
      have hh7 := hh6.below hb
      have hx7 := hx6.below hb
      have hu7 := hu6.below hb
      have hg7 := hg6.below hb
      have hbw7 := bl_step hbw6 hb
      obtain ⟨c0, c1, c2, c3, c4, c5, c6, c7, c8, c9⟩ := id hg7
      simp only at c0 c1 c2 c3 c4 c5 c6 c7 c8 c9
      by_cases hlt : k < 2 * H.cap
      · have h1 := HR1.out (H.base + k) w7 hu7 (by omega) (by omega)
        by_cases hkp : k = p
        · subst hkp
          have hv := HRY.out
          rw [HYE.out] at hv
          have h2 := fun W a => HR2.out u2 (H.base + k) W a (by omega) (by omega)
          rw [hv] at h2
          have h2' := Lib.hid h2
          clear hv h2
          obtain ⟨E, hE⟩ : ∃ E, E = fndE H.lay (H.base + k) := ⟨_, rfl⟩
          rw [← hE] at h1 h2'
          clear hE
          have h1' := Lib.hid h1
          clear h1
          go_wp2_with fail
          refine h1'.out.mono ?_
          intro e w8 hr
          obtain ⟨rfl, hb8⟩ := hr.both
          clear c0 c1 c2 c3 c4 c5 c6 c7 c8 c9 hr
          have hh8 := hh7.below hb8
          obtain ⟨c0, c1, c2, c3, c4, c5, c6, c7, c8, c9⟩ := id hh8
          go_wp2_with fail
          refine (h2'.out _ (hx7.below hb8)).mono ?_
          intro e w9 hr
          obtain ⟨rfl, hb9⟩ := hr.both
          clear c0 c1 c2 c3 c4 c5 c6 c7 c8 c9 hr
          go_wp2
          exact ⟨⟨k + 1, by omega, by omega, rfl, bl_step (bl_step hb hb8) hb9⟩, by simp [intOf]; omega⟩
        · have hv := HRN.out (H.base + k) (by rw [HYE.out]; omega)
          have h2 := fun W a => HR2.out u2 (H.base + k) W a (by omega) (by omega)
          rw [hv] at h2
          have h2' := Lib.hid h2
          clear hv h2
          obtain ⟨E, hE⟩ : ∃ E, E = fndE H.lay (H.base + k) := ⟨_, rfl⟩
          rw [← hE] at h1 h2'
          obtain ⟨D, hD⟩ : ∃ D, D = rdW H (H.base + k) := ⟨_, rfl⟩
          rw [← hD] at h1 h2'
          clear hE hD
          have h1' := Lib.hid h1
          have hkb : (k == p) = false := beq_eq_false_iff_ne.2 hkp
          have hkb2 : (H.base + k == H.base + p) = false := beq_eq_false_iff_ne.2 (by omega)
          clear h1
          go_wp2_with fail
          refine h1'.out.mono ?_
          intro e w8 hr
          obtain ⟨rfl, hb8⟩ := hr.both
          clear c0 c1 c2 c3 c4 c5 c6 c7 c8 c9 hr
          have hh8 := hh7.below hb8
          obtain ⟨c0, c1, c2, c3, c4, c5, c6, c7, c8, c9⟩ := id hh8
          go_wp2_with fail
          refine (h2'.out _ (hx7.below hb8)).mono ?_
          intro e w9 hr
          obtain ⟨rfl, hb9⟩ := hr.both
          clear c0 c1 c2 c3 c4 c5 c6 c7 c8 c9 hr
          go_wp2
          exact ⟨⟨k + 1, by omega, by omega, rfl, bl_step (bl_step hb hb8) hb9⟩, by simp [intOf]; omega⟩
      · obtain rfl : k = 2 * H.cap := by omega
        have h2 := Lib.hid fun W a => HW2.out u2 W a
        obtain ⟨d0, d1, d2, d3, d4, d5, d6, d7, d8, d9⟩ := id hh7
        go_wp2_with fail
        refine (h2.out _ hx7).mono ?_
        intro e w8 hr
        obtain ⟨u3, rfl, hz8, hb8⟩ := hr
        have hk8 := HeapAt.lit w8 u3 50
        have hz8 := hz8.below (bl_alloc (bl_refl w8) (.cells u3.cells 50))
        have hh8 := (hh7.below hb8).alloc (.cells u3.cells 50)
        have hx8 := (hx7.below hb8).below (bl_alloc (bl_refl w8) (.cells u3.cells 50))
        have hu8 := (hu7.below hb8).below (bl_alloc (bl_refl w8) (.cells u3.cells 50))
        have hg8 := (hg7.below hb8).alloc (.cells u3.cells 50)
        have hbw8 := bl_alloc (bl_step hbw7 hb8) (.cells u3.cells 50)
        simp only [Hv.cells, Sl.v] at hk8 hz8 hh8 hx8 hu8 hg8 hbw8 ⊢
        clear hb8 hh7 hx7 hu7 hg7 hbw7 c0 c1 c2 c3 c4 c5 c6 c7 c8 c9 d0 d1 d2 d3 d4 d5 d6 d7 d8 d9 h2
        go_wp2_with fail
        obtain ⟨W9, hW9⟩ : ∃ W, W = w8.alloc (.cells #[.int .u64 u3.base, .int .i64 u3.cap, .int .i64 u3.tu, .bool u3.cyc, .int .i64 u3.scan, .slice u3.low.a u3.low.n u3.low.c, .slice u3.high.a u3.high.n u3.high.c, .slice u3.old.a u3.old.n u3.old.c, .slice u3.far.a u3.far.n u3.far.c, .slice u3.roots.a u3.roots.n u3.roots.c] 50) := ⟨_, rfl⟩
        rw [← hW9] at hk8 hz8 hh8 hx8 hu8 hg8 hbw8 ⊢
        obtain ⟨g3, hgg⟩ : ∃ g, g = w8.heap.size := ⟨_, rfl⟩
        rw [← hgg] at hk8 ⊢
        clear hW9 hgg
        obtain ⟨c0, c1, c2, c3, c4, c5, c6, c7, c8, c9⟩ := id hg8
        obtain ⟨d0, d1, d2, d3, d4, d5, d6, d7, d8, d9⟩ := id hh8
        obtain ⟨e0, e1, e2, e3, e4, e5, e6, e7, e8, e9⟩ := id hk8
        simp only at c0 c1 c2 c3 c4 c5 c6 c7 c8 c9
        have zg : g < W9.heap.size := World.block_lt_of_cell? _ _ c0
        have zg2 : g2 < W9.heap.size := World.block_lt_of_cell? _ _ d0
        have zg3 : g3 < W9.heap.size := World.block_lt_of_cell? _ _ e0
        refine wp_region_later (by kernel_rfl) (by kernel_rfl) ?_
        repeat (go_big_quiet_step ((first | with_reducible exact later_retB (HSM.out _ _ (hz8.below (Later.below _)) (hu8.below (Later.below _))) | with_reducible exact later_retB (HL2.out _ _ (hx8.below (Later.below _))) | with_reducible exact later_retB (HL1.out _))))
        refine wpQuiet_nil ?_
        intro _ hw'
        obtain ⟨x, hw''⟩ := hw'
        subst hw''
        go_wp2
        go_ret
        exact ⟨rfl, bl_step hbw8 x.below⟩
end Go.Proofs.Ytappejihclmjmaa
