/-
  HeapMany: the walk of the law. Conditions: integers that fit.
-/
import Derived.Test.YtappejihclmjmaaHWords
namespace Go.Proofs.Ytappejihclmjmaa
open Go.RowKit
attribute [local go_sem ↓] Go.wp_at_zero Go.wp_at_succ

set_option maxRecDepth 100000 in
set_option maxHeartbeats 4000000 in
theorem hmany_walk (b n0 n1 n2 n3 n4 n5 : Int) (A : Option Addr) (ws : List Nat) (cap : Nat) (at0 at1 : Int) (xv xw : Nat) (w : World) (hb : 0 ≤ b ∧ b < 18446744073709551616) (g0 : -9223372036854775808 ≤ n0 ∧ n0 ≤ 9223372036854775807) (g1 : -9223372036854775808 ≤ n1 ∧ n1 ≤ 9223372036854775807) (g2 : -9223372036854775808 ≤ n2 ∧ n2 ≤ 9223372036854775807) (g3 : -9223372036854775808 ≤ n3 ∧ n3 ≤ 9223372036854775807) (g4 : -9223372036854775808 ≤ n4 ∧ n4 ≤ 9223372036854775807) (g5 : -9223372036854775808 ≤ n5 ∧ n5 ≤ 9223372036854775807)
    (hr : Rd w A (us ws)) (hc : ws.length ≤ cap) (hm : cap ≤ 9223372036854775807) (hv : ∀ x ∈ ws, x < 18446744073709551616) (hat : -9223372036854775808 ≤ at0 ∧ at0 ≤ 9223372036854775807) (hau : -9223372036854775808 ≤ at1 ∧ at1 ≤ 9223372036854775807) (hx : xv < 18446744073709551616) (hx2 : xw < 18446744073709551616) :
    Calls Try.prog 11 #[.int .u64 b, .agg #[.int .i64 n0, .int .i64 n1, .int .i64 n2, .int .i64 n3, .int .i64 n4, .int .i64 n5], .slice A ws.length cap, .int .i64 at0, .int .i64 at1, .int .u64 (xv : Int), .int .u64 (xw : Int)] w (RetTrue w) := by
  have HHP := Lib.hid fun W (a : Rd W A (us ws)) => heap_any b n0 n1 n2 n3 n4 n5 A ws cap W hb g0 g1 g2 g3 g4 g5 a (by omega) hv
  have hok := layOf_ok b n0 n1 n2 n3 n4 n5
  obtain ⟨l, hl⟩ : ∃ l, l = layOf b n0 n1 n2 n3 n4 n5 := ⟨_, rfl⟩
  rw [← hl] at HHP hok
  clear hl hb g0 g1 g2 g3 g4 g5
  obtain ⟨hok, hcap⟩ := hok
  have hll := hpL_lay l ws hok
  rw [← hll] at hok hcap
  have hrl : (hpL l ws).roots.length = 3 := smOf_len _ _ _
  obtain ⟨H, hH⟩ : ∃ H, H = hpL l ws := ⟨_, rfl⟩
  rw [← hH] at HHP hok hcap hrl
  have HRD := Lib.hid hr
  clear hH hll l hr hv
  have q1 : 1 ≤ H.base := hok.1
  have q2 : 0 ≤ H.cap := hok.2.1
  have q3 : H.cap ≤ 40 := hcap
  have q4 : H.base + 2 * H.cap ≤ 9223372036854775808 := hok.2.2.2.1
  have q5 : (H.low.length : Int) + H.high.length ≤ H.cap ∧ (H.old.length : Int) + H.far.length ≤ H.cap := by
    obtain ⟨_, _, _, _, _, _, _, c, _, _, f⟩ := hok
    exact ⟨c, f⟩
  have k1 : H.low.length ≤ 40 := by omega
  have k2 : H.high.length ≤ 40 := by omega
  have k3 : H.old.length ≤ 40 := by omega
  have k4 : H.far.length ≤ 40 := by omega
  have k5 : H.roots.length ≤ 40 := by omega
  clear q5 hrl hcap
  have HOK := Lib.hid hok
  clear hok
  go_enter Try.func11, Try.ntmps11
  go_wp2_with fail
  refine (awake10_any _).mono ?_
  intro e w1 hr1
  obtain ⟨rfl, x, rfl⟩ := hr1.later
  have hb1 : Below w.heap.size w x.w := bl_step (bl_alloc (bl_refl w) _) x.below
  clear hr1
  go_wp2_with fail
  refine (HHP.out _ (HRD.out.below hb1)).mono ?_
  intro e w2 hr2
  obtain ⟨u, rfl, hu2, hb2⟩ := hr2
  obtain ⟨ub, uc, ut, uy, us_, low, high, old, far, roots⟩ := u
  obtain ⟨e1, e2, e3, e4, e5⟩ := hu2.1
  simp only at e1 e2 e3 e4 e5
  subst e1 e2 e3 e4 e5
  have hg2 := HeapAt.lit w2 ⟨H.base, H.cap, H.to, H.cyc, H.scan, low, high, old, far, roots⟩ 50
  have hu3 := hu2.below (bl_alloc (bl_refl w2) (.cells (Hv.cells ⟨H.base, H.cap, H.to, H.cyc, H.scan, low, high, old, far, roots⟩) 50))
  have hbw3 := bl_alloc (bl_step hb1 hb2) (.cells (Hv.cells ⟨H.base, H.cap, H.to, H.cyc, H.scan, low, high, old, far, roots⟩) 50)
  simp only [Hv.cells, Sl.v] at hg2 hu3 hbw3 ⊢
  clear hu2 hb2 hb1
  by_cases hz : H.cap = 0
  · have hzb : (H.cap == 0) = true := beq_iff_eq.2 hz
    clear hz
    go_wp2_with fail
    go_ret
    exact ⟨rfl, hbw3⟩
  have hzb : (H.cap == 0) = false := beq_eq_false_iff_ne.2 hz
  have q6 : 1 ≤ H.cap := by omega
  clear hz
  have hpb := pickI_b at0 (2 * H.cap) (by omega)
  have HPp := Lib.hid fun W => pick10_any at0 (2 * H.cap) W hat.1 hat.2 (by omega) (by omega)
  obtain ⟨p, hpe⟩ : ∃ p, p = pickI at0 (2 * H.cap) := ⟨_, rfl⟩
  rw [← hpe] at hpb HPp
  obtain ⟨hp0, hp1⟩ := hpb
  clear hpe hat
  have hpb := pickI_b at1 (2 * H.cap) (by omega)
  have HPq := Lib.hid fun W => pick10_any at1 (2 * H.cap) W hau.1 hau.2 (by omega) (by omega)
  obtain ⟨q, hpe⟩ : ∃ p, p = pickI at1 (2 * H.cap) := ⟨_, rfl⟩
  rw [← hpe] at hpb HPq
  obtain ⟨hq0, hq1⟩ := hpb
  clear hpe hau
  go_wp2_with fail
  obtain ⟨W3, hW3⟩ : ∃ W, W = w2.alloc (.cells #[.int .u64 H.base, .int .i64 H.cap, .int .i64 H.to, .bool H.cyc, .int .i64 H.scan, .slice low.a low.n low.c, .slice high.a high.n high.c, .slice old.a old.n old.c, .slice far.a far.n far.c, .slice roots.a roots.n roots.c] 50) := ⟨_, rfl⟩
  rw [← hW3] at hg2 hu3 hbw3 ⊢
  obtain ⟨g, hg⟩ : ∃ g, g = w2.heap.size := ⟨_, rfl⟩
  rw [← hg] at hg2 ⊢
  clear hW3 hg x
  obtain ⟨c0, c1, c2, c3, c4, c5, c6, c7, c8, c9⟩ := id hg2
  simp only at c0 c1 c2 c3 c4 c5 c6 c7 c8 c9
  have zg : g < W3.heap.size := World.block_lt_of_cell? _ _ c0
  have ew1 : IntKind.i64.wrap (2 * H.cap) = 2 * H.cap := IntWalk.i64_in _ (by omega)
  have ew2 : IntKind.u64.wrap p = p := IntWalk.u64_in _ (by omega)
  have ew3 : IntKind.u64.wrap (H.base + p) = H.base + p := IntWalk.u64_in _ (by omega)
  refine wp_region_later (by kernel_rfl) (by kernel_rfl) ?_
  repeat (go_big_quiet_step ((with_reducible exact later_same (HPp.out _))))
  refine wpQuiet_nil ?_
  intro _ hw'
  obtain ⟨x4, hw''⟩ := hw'
  subst hw''
  clear ew2 ew3
  have hu4 := hu3.below x4.below
  have hg4 := hg2.below x4.below
  have hbw4 := bl_step hbw3 x4.below
  clear c0 c1 c2 c3 c4 c5 c6 c7 c8 c9 zg hu3 hg2 hbw3
  obtain ⟨W4, hW4⟩ : ∃ W, W = x4.w := ⟨_, rfl⟩
  rw [← hW4] at hu4 hg4 hbw4 ⊢
  clear hW4 x4
  obtain ⟨c0, c1, c2, c3, c4, c5, c6, c7, c8, c9⟩ := id hg4
  simp only at c0 c1 c2 c3 c4 c5 c6 c7 c8 c9
  have zg : g < W4.heap.size := World.block_lt_of_cell? _ _ c0
  go_wp2_with fail
  have ew2 : IntKind.u64.wrap q = q := IntWalk.u64_in _ (by omega)
  have ew3 : IntKind.u64.wrap (H.base + q) = H.base + q := IntWalk.u64_in _ (by omega)
  refine wp_region_later (by kernel_rfl) (by kernel_rfl) ?_
  repeat (go_big_quiet_step ((with_reducible exact later_same (HPq.out _))))
  refine wpQuiet_nil ?_
  intro _ hw'
  obtain ⟨x5, hw''⟩ := hw'
  subst hw''
  clear ew1 ew2 ew3
  have hu5 := hu4.below x5.below
  have hg5 := hg4.below x5.below
  have hbw5 := bl_step hbw4 x5.below
  clear c0 c1 c2 c3 c4 c5 c6 c7 c8 c9 zg hu4 hg4 hbw4
  obtain ⟨W5, hW5⟩ : ∃ W, W = x5.w := ⟨_, rfl⟩
  rw [← hW5] at hu5 hg5 hbw5 ⊢
  clear hW5 x5 HPp HPq HHP HRD
  obtain ⟨c0, c1, c2, c3, c4, c5, c6, c7, c8, c9⟩ := id hg5
  simp only at c0 c1 c2 c3 c4 c5 c6 c7 c8 c9
  go_wp2_with fail
  obtain ⟨y, hye⟩ : ∃ y, y = H.base + p := ⟨_, rfl⟩
  obtain ⟨z, hze⟩ : ∃ y, y = H.base + q := ⟨_, rfl⟩
  have y0 : 0 ≤ y := by omega
  have y1 : y < 18446744073709551616 := by omega
  have z0 : 0 ≤ z := by omega
  have z1 : z < 18446744073709551616 := by omega
  have hok := HOK.out
  have HA := Lib.hid fun (W : World) (a : Hv.Is ⟨H.base, H.cap, H.to, H.cyc, H.scan, low, high, old, far, roots⟩ W H) => write_any ⟨H.base, H.cap, H.to, H.cyc, H.scan, low, high, old, far, roots⟩ H y xv W a (ok_wf hok) y0 y1 (by omega) (by omega) (by omega) (by omega) (by omega)
  have HB := Lib.hid fun (W : World) (a : Hv.Is ⟨H.base, H.cap, H.to, H.cyc, H.scan, low, high, old, far, roots⟩ W H) => write_any ⟨H.base, H.cap, H.to, H.cyc, H.scan, low, high, old, far, roots⟩ H z xw W a (ok_wf hok) z0 z1 (by omega) (by omega) (by omega) (by omega) (by omega)
  by_cases hfy : fndK H.lay y = 0
  · rw [fndE_none _ _ hok hfy] at HA
    rw [hye] at HA
    rw [hze] at HB
    simp only [Hv.cells, Sl.v] at HA HB
    have hE : fndE H.lay (H.base + q) = 0 ∨ fndE H.lay (H.base + q) = 6 := by
      rw [fndE, if_pos hok]; split <;> simp
    obtain ⟨E, hEe⟩ : ∃ E, E = fndE H.lay (H.base + q) := ⟨_, rfl⟩
    rw [← hEe] at HB hE
    clear hEe hok hfy
    rcases hE with rfl | rfl
    all_goals
      clear hye hze
      refine (HA.out _ hu5).mono ?_
      intro e w6 hr
      obtain ⟨u6, rfl, _, hb⟩ := hr
      have hg6 := (hg5.below hb).alloc (.cells u6.cells 50)
      have hu6 := (hu5.below hb).below (bl_alloc (bl_refl w6) (.cells u6.cells 50))
      have hbw6 := bl_alloc (bl_step hbw5 hb) (.cells u6.cells 50)
      simp only [Hv.cells, Sl.v] at hg6 hu6 hbw6 ⊢
      clear hu5 hg5 hbw5 hb c0 c1 c2 c3 c4 c5 c6 c7 c8 c9
      obtain ⟨c0, c1, c2, c3, c4, c5, c6, c7, c8, c9⟩ := id hg6
      simp only at c0 c1 c2 c3 c4 c5 c6 c7 c8 c9
      go_wp2_with fail
      refine (HB.out _ hu6).mono ?_
      intro e w7 hr
      obtain ⟨u7, rfl, _, hb⟩ := hr
      have hbw7 := bl_alloc (bl_step hbw6 hb) (.cells u7.cells 50)
      simp only [Hv.cells, Sl.v] at hbw7 ⊢
      go_wp2
      all_goals go_ret
      all_goals exact ⟨rfl, hbw7⟩
  by_cases hfz : fndK H.lay z = 0
  · rw [fndE_some _ _ hok hfy] at HA
    rw [fndE_none _ _ hok hfz] at HB
    rw [hye] at HA
    rw [hze] at HB
    simp only [Hv.cells, Sl.v] at HA HB
    clear hok hfy hfz
    clear hye hze
    refine (HA.out _ hu5).mono ?_
    intro e w6 hr
    obtain ⟨u6, rfl, _, hb⟩ := hr
    have hg6 := (hg5.below hb).alloc (.cells u6.cells 50)
    have hu6 := (hu5.below hb).below (bl_alloc (bl_refl w6) (.cells u6.cells 50))
    have hbw6 := bl_alloc (bl_step hbw5 hb) (.cells u6.cells 50)
    simp only [Hv.cells, Sl.v] at hg6 hu6 hbw6 ⊢
    clear hu5 hg5 hbw5 hb c0 c1 c2 c3 c4 c5 c6 c7 c8 c9
    obtain ⟨c0, c1, c2, c3, c4, c5, c6, c7, c8, c9⟩ := id hg6
    simp only at c0 c1 c2 c3 c4 c5 c6 c7 c8 c9
    go_wp2_with fail
    refine (HB.out _ hu6).mono ?_
    intro e w7 hr
    obtain ⟨u7, rfl, _, hb⟩ := hr
    have hbw7 := bl_alloc (bl_step hbw6 hb) (.cells u7.cells 50)
    simp only [Hv.cells, Sl.v] at hbw7 ⊢
    go_wp2
    all_goals go_ret
    all_goals exact ⟨rfl, hbw7⟩
  rw [fndE_some _ _ hok hfy, show wrR H y xv = wrH H y xv by rw [wrR, if_pos ⟨hok, hfy⟩]] at HA
  rw [fndE_some _ _ hok hfz, show wrR H z xw = wrH H z xw by rw [wrR, if_pos ⟨hok, hfz⟩]] at HB
  have hly := wr_lay H y xv hfy
  have hlz := wr_lay H z xw hfz
  have hny := wr_lens H y xv hfy
  have hnz := wr_lens H z xw hfz
  obtain ⟨HY, hHY⟩ : ∃ X, X = wrH H y xv := ⟨_, rfl⟩
  obtain ⟨HZ, hHZ⟩ : ∃ X, X = wrH H z xw := ⟨_, rfl⟩
  rw [← hHY] at HA hly hny
  rw [← hHZ] at HB hlz hnz
  have oky : HY.lay.Ok := by rw [hly]; exact hok
  have okz : HZ.lay.Ok := by rw [hlz]; exact hok
  have fyz : fndK HY.lay z ≠ 0 := by rw [hly]; exact hfz
  have fzy : fndK HZ.lay y ≠ 0 := by rw [hlz]; exact hfy
  have HC := Lib.hid fun (v : Hv) (W : World) (a : v.Is W HY) => write_any v HY z xw W a (ok_wf oky) z0 z1 (by omega) (by omega) (by omega) (by omega) (by rw [hny.2.2.2.2]; omega)
  have HD := Lib.hid fun (v : Hv) (W : World) (a : v.Is W HZ) => write_any v HZ y xv W a (ok_wf okz) y0 y1 (by omega) (by omega) (by omega) (by omega) (by rw [hnz.2.2.2.2]; omega)
  rw [fndE_some _ _ oky fyz, show wrR HY z xw = wrH HY z xw by rw [wrR, if_pos ⟨oky, fyz⟩]] at HC
  rw [fndE_some _ _ okz fzy, show wrR HZ y xv = wrH HZ y xv by rw [wrR, if_pos ⟨okz, fzy⟩]] at HD
  have hl1 := wr_lay HY z xw fyz
  have hl2 := wr_lay HZ y xv fzy
  have ok1 : (wrH HY z xw).lay.Ok := by rw [hl1]; exact oky
  have ok2 : (wrH HZ y xv).lay.Ok := by rw [hl2]; exact okz
  have f1 : fndK (wrH HY z xw).lay y ≠ 0 := by rw [hl1, hly]; exact hfy
  have f2 : fndK (wrH HZ y xv).lay z ≠ 0 := by rw [hl2, hlz]; exact hfz
  have HE := Lib.hid fun (v : Hv) (W : World) (a : v.Is W (wrH HY z xw)) => read_any v _ y W a (ok_wf ok1) y0 y1
  have HF := Lib.hid fun (v : Hv) (W : World) (a : v.Is W (wrH HZ y xv)) => read_any v _ z W a (ok_wf ok2) z0 z1
  rw [fndE_some _ _ ok1 f1] at HE
  rw [fndE_some _ _ ok2 f2] at HF
  by_cases hyz : y = z
  · have r1 : rdW (wrH HY z xw) y = xw := by rw [hyz]; exact rd_wr HY z xw oky fyz
    have r2 : rdW (wrH HZ y xv) z = xv := by rw [← hyz]; exact rd_wr HZ y xv okz (hyz ▸ fzy)
    rw [r1] at HE
    rw [r2] at HF
    obtain ⟨M1, hM1⟩ : ∃ M, M = wrH HY z xw := ⟨_, rfl⟩
    obtain ⟨M2, hM2⟩ : ∃ M, M = wrH HZ y xv := ⟨_, rfl⟩
    rw [← hM1] at HC HE
    rw [← hM2] at HD HF
    obtain rfl : p = q := by omega
    rw [hye] at HA HD HE
    rw [hze] at HB HC HF
    clear r1 r2 hyz hM1 hM2 HOK hze
    simp only [Hv.cells, Sl.v] at HA HB HC HD HE HF
    clear hny hnz hly hlz oky okz fyz fzy hl1 hl2 ok1 ok2 f1 f2 hok hfy hfz y0 y1 z0 z1 hye
    refine (HA.out _ hu5).mono ?_
    intro e w6 hr
    obtain ⟨u6, rfl, ha6, hb⟩ := hr
    have hp6 := HeapAt.lit w6 u6 50
    have ha6 := ha6.below (bl_alloc (bl_refl w6) (.cells u6.cells 50))
    have hg6 := (hg5.below hb).alloc (.cells u6.cells 50)
    have hu6 := (hu5.below hb).below (bl_alloc (bl_refl w6) (.cells u6.cells 50))
    have hbw6 := bl_alloc (bl_step hbw5 hb) (.cells u6.cells 50)
    simp only [Hv.cells, Sl.v] at hp6 ha6 hg6 hu6 hbw6 ⊢
    clear hu5 hg5 hbw5 hb c0 c1 c2 c3 c4 c5 c6 c7 c8 c9
    obtain ⟨c0, c1, c2, c3, c4, c5, c6, c7, c8, c9⟩ := id hg6
    simp only at c0 c1 c2 c3 c4 c5 c6 c7 c8 c9
    go_wp2_with fail
    refine (HB.out _ hu6).mono ?_
    intro e w7 hr
    obtain ⟨u7, rfl, ha7, hb⟩ := hr
    have hq7 := HeapAt.lit w7 u7 50
    have ha7 := ha7.below (bl_alloc (bl_refl w7) (.cells u7.cells 50))
    have hp7 := (hp6.below hb).alloc (.cells u7.cells 50)
    have ha6 := (ha6.below hb).below (bl_alloc (bl_refl w7) (.cells u7.cells 50))
    have hbw7 := bl_alloc (bl_step hbw6 hb) (.cells u7.cells 50)
    simp only [Hv.cells, Sl.v] at hq7 ha7 hp7 ha6 hbw7 ⊢
    clear hu6 hg6 hbw6 hb c0 c1 c2 c3 c4 c5 c6 c7 c8 c9 hp6
    obtain ⟨c0, c1, c2, c3, c4, c5, c6, c7, c8, c9⟩ := id hp7
    go_wp2_with fail
    obtain ⟨W7, hW7⟩ : ∃ W, W = w7.alloc (.cells #[.int .u64 u7.base, .int .i64 u7.cap, .int .i64 u7.tu, .bool u7.cyc, .int .i64 u7.scan, .slice u7.low.a u7.low.n u7.low.c, .slice u7.high.a u7.high.n u7.high.c, .slice u7.old.a u7.old.n u7.old.c, .slice u7.far.a u7.far.n u7.far.c, .slice u7.roots.a u7.roots.n u7.roots.c] 50) := ⟨_, rfl⟩
    rw [← hW7] at hq7 ha7 hp7 ha6 hbw7 ⊢
    obtain ⟨gp, hgp⟩ : ∃ g, g = w6.heap.size := ⟨_, rfl⟩
    rw [← hgp] at hp7 ⊢
    obtain ⟨gq, hgq⟩ : ∃ g, g = w7.heap.size := ⟨_, rfl⟩
    rw [← hgq] at hq7 ⊢
    clear hW7 hgp hgq c0 c1 c2 c3 c4 c5 c6 c7 c8 c9
    refine (HC.out _ _ ha6).mono ?_
    intro e w8 hr
    obtain ⟨u8, rfl, ha8, hb⟩ := hr
    have hr8 := HeapAt.lit w8 u8 50
    have ha8 := ha8.below (bl_alloc (bl_refl w8) (.cells u8.cells 50))
    have hq8 := (hq7.below hb).alloc (.cells u8.cells 50)
    have ha7 := (ha7.below hb).below (bl_alloc (bl_refl w8) (.cells u8.cells 50))
    have hbw8 := bl_alloc (bl_step hbw7 hb) (.cells u8.cells 50)
    simp only [Hv.cells, Sl.v] at hr8 ha8 hq8 ha7 hbw8 ⊢
    clear hb hq7 hp7 ha6 hbw7
    obtain ⟨c0, c1, c2, c3, c4, c5, c6, c7, c8, c9⟩ := id hq8
    go_wp2_with fail
    refine (HD.out _ _ ha7).mono ?_
    intro e w9 hr
    obtain ⟨u9, rfl, ha9, hb⟩ := hr
    have hs9 := HeapAt.lit w9 u9 50
    have ha9 := ha9.below (bl_alloc (bl_refl w9) (.cells u9.cells 50))
    have hr9 := (hr8.below hb).alloc (.cells u9.cells 50)
    have ha8 := (ha8.below hb).below (bl_alloc (bl_refl w9) (.cells u9.cells 50))
    have hbw9 := bl_alloc (bl_step hbw8 hb) (.cells u9.cells 50)
    simp only [Hv.cells, Sl.v] at hs9 ha9 hr9 ha8 hbw9 ⊢
    clear hb hq8 hr8 ha7 hbw8 c0 c1 c2 c3 c4 c5 c6 c7 c8 c9
    obtain ⟨c0, c1, c2, c3, c4, c5, c6, c7, c8, c9⟩ := id hr9
    go_wp2_with fail
    obtain ⟨W9, hW9⟩ : ∃ W, W = w9.alloc (.cells #[.int .u64 u9.base, .int .i64 u9.cap, .int .i64 u9.tu, .bool u9.cyc, .int .i64 u9.scan, .slice u9.low.a u9.low.n u9.low.c, .slice u9.high.a u9.high.n u9.high.c, .slice u9.old.a u9.old.n u9.old.c, .slice u9.far.a u9.far.n u9.far.c, .slice u9.roots.a u9.roots.n u9.roots.c] 50) := ⟨_, rfl⟩
    rw [← hW9] at hs9 ha9 hr9 ha8 hbw9 ⊢
    obtain ⟨gr, hgr⟩ : ∃ g, g = w8.heap.size := ⟨_, rfl⟩
    rw [← hgr] at hr9 ⊢
    obtain ⟨gs, hgs⟩ : ∃ g, g = w9.heap.size := ⟨_, rfl⟩
    rw [← hgs] at hs9 ⊢
    clear hW9 hgr hgs c0 c1 c2 c3 c4 c5 c6 c7 c8 c9
    refine (HE.out _ _ ha8).mono ?_
    intro e w10 hr
    obtain ⟨rfl, hb⟩ := hr.both
    have hr10 := hr9.below hb
    have hs10 := hs9.below hb
    have ha8 := ha8.below hb
    have ha9 := ha9.below hb
    have hbw10 := bl_step hbw9 hb
    clear hr hb hr9 hs9 hbw9
    obtain ⟨c0, c1, c2, c3, c4, c5, c6, c7, c8, c9⟩ := id hs10
    go_wp2_with fail
    refine (HF.out _ _ ha9).mono ?_
    intro e w11 hr
    obtain ⟨rfl, hb⟩ := hr.both
    have hr11 := hr10.below hb
    have hs11 := hs10.below hb
    have ha8 := ha8.below hb
    have ha9 := ha9.below hb
    have hbw11 := bl_step hbw10 hb
    clear hr hb hr10 hs10 hbw10 c0 c1 c2 c3 c4 c5 c6 c7 c8 c9
    go_wp2
    go_ret
    exact ⟨rfl, hbw11⟩
  · have hwz := rd_wr_ne HY z y xw oky fyz hyz
    have hwy := rd_wr_ne HZ y z xv okz fzy (Ne.symm hyz)
    have r1 : rdW (wrH HY z xw) y = xv := by rw [hwz, hHY]; exact rd_wr H y xv hok hfy
    have r2 : rdW (wrH HZ y xv) z = xw := by rw [hwy, hHZ]; exact rd_wr H z xw hok hfz
    have hcm : wrH HZ y xv = wrH HY z xw := by rw [hHZ, hHY]; exact (wr_comm H y z xv xw hok hfy hfz hyz).symm
    rw [r1] at HE
    rw [r2] at HF
    rw [hcm] at HD HF
    obtain ⟨M1, hM1⟩ : ∃ M, M = wrH HY z xw := ⟨_, rfl⟩
    rw [← hM1] at HC HE HD HF
    have hpq : (p == q) = false := beq_eq_false_iff_ne.2 (by omega)
    have hpq2 : (H.base + p == H.base + q) = false := beq_eq_false_iff_ne.2 (by omega)
    rw [hye] at HA HD HE
    rw [hze] at HB HC HF
    clear r1 r2 hyz hM1 hcm HOK hwz hwy hze
    have HSM := Lib.hid fun (v u : Hv) (W : World) (a : v.Is W M1) (b : u.Is W M1) => same_any v u M1 W a b
    simp only [Hv.cells, Sl.v] at HSM
    simp only [Hv.cells, Sl.v] at HA HB HC HD HE HF
    clear hny hnz hly hlz oky okz fyz fzy hl1 hl2 ok1 ok2 f1 f2 hok hfy hfz y0 y1 z0 z1 hye
    refine (HA.out _ hu5).mono ?_
    intro e w6 hr
    obtain ⟨u6, rfl, ha6, hb⟩ := hr
    have hp6 := HeapAt.lit w6 u6 50
    have ha6 := ha6.below (bl_alloc (bl_refl w6) (.cells u6.cells 50))
    have hg6 := (hg5.below hb).alloc (.cells u6.cells 50)
    have hu6 := (hu5.below hb).below (bl_alloc (bl_refl w6) (.cells u6.cells 50))
    have hbw6 := bl_alloc (bl_step hbw5 hb) (.cells u6.cells 50)
    simp only [Hv.cells, Sl.v] at hp6 ha6 hg6 hu6 hbw6 ⊢
    clear hu5 hg5 hbw5 hb c0 c1 c2 c3 c4 c5 c6 c7 c8 c9
    obtain ⟨c0, c1, c2, c3, c4, c5, c6, c7, c8, c9⟩ := id hg6
    simp only at c0 c1 c2 c3 c4 c5 c6 c7 c8 c9
    go_wp2_with fail
    refine (HB.out _ hu6).mono ?_
    intro e w7 hr
    obtain ⟨u7, rfl, ha7, hb⟩ := hr
    have hq7 := HeapAt.lit w7 u7 50
    have ha7 := ha7.below (bl_alloc (bl_refl w7) (.cells u7.cells 50))
    have hp7 := (hp6.below hb).alloc (.cells u7.cells 50)
    have ha6 := (ha6.below hb).below (bl_alloc (bl_refl w7) (.cells u7.cells 50))
    have hbw7 := bl_alloc (bl_step hbw6 hb) (.cells u7.cells 50)
    simp only [Hv.cells, Sl.v] at hq7 ha7 hp7 ha6 hbw7 ⊢
    clear hu6 hg6 hbw6 hb c0 c1 c2 c3 c4 c5 c6 c7 c8 c9 hp6
    obtain ⟨c0, c1, c2, c3, c4, c5, c6, c7, c8, c9⟩ := id hp7
    go_wp2_with fail
    obtain ⟨W7, hW7⟩ : ∃ W, W = w7.alloc (.cells #[.int .u64 u7.base, .int .i64 u7.cap, .int .i64 u7.tu, .bool u7.cyc, .int .i64 u7.scan, .slice u7.low.a u7.low.n u7.low.c, .slice u7.high.a u7.high.n u7.high.c, .slice u7.old.a u7.old.n u7.old.c, .slice u7.far.a u7.far.n u7.far.c, .slice u7.roots.a u7.roots.n u7.roots.c] 50) := ⟨_, rfl⟩
    rw [← hW7] at hq7 ha7 hp7 ha6 hbw7 ⊢
    obtain ⟨gp, hgp⟩ : ∃ g, g = w6.heap.size := ⟨_, rfl⟩
    rw [← hgp] at hp7 ⊢
    obtain ⟨gq, hgq⟩ : ∃ g, g = w7.heap.size := ⟨_, rfl⟩
    rw [← hgq] at hq7 ⊢
    clear hW7 hgp hgq c0 c1 c2 c3 c4 c5 c6 c7 c8 c9
    refine (HC.out _ _ ha6).mono ?_
    intro e w8 hr
    obtain ⟨u8, rfl, ha8, hb⟩ := hr
    have hr8 := HeapAt.lit w8 u8 50
    have ha8 := ha8.below (bl_alloc (bl_refl w8) (.cells u8.cells 50))
    have hq8 := (hq7.below hb).alloc (.cells u8.cells 50)
    have ha7 := (ha7.below hb).below (bl_alloc (bl_refl w8) (.cells u8.cells 50))
    have hbw8 := bl_alloc (bl_step hbw7 hb) (.cells u8.cells 50)
    simp only [Hv.cells, Sl.v] at hr8 ha8 hq8 ha7 hbw8 ⊢
    clear hb hq7 hp7 ha6 hbw7
    obtain ⟨c0, c1, c2, c3, c4, c5, c6, c7, c8, c9⟩ := id hq8
    go_wp2_with fail
    refine (HD.out _ _ ha7).mono ?_
    intro e w9 hr
    obtain ⟨u9, rfl, ha9, hb⟩ := hr
    have hs9 := HeapAt.lit w9 u9 50
    have ha9 := ha9.below (bl_alloc (bl_refl w9) (.cells u9.cells 50))
    have hr9 := (hr8.below hb).alloc (.cells u9.cells 50)
    have ha8 := (ha8.below hb).below (bl_alloc (bl_refl w9) (.cells u9.cells 50))
    have hbw9 := bl_alloc (bl_step hbw8 hb) (.cells u9.cells 50)
    simp only [Hv.cells, Sl.v] at hs9 ha9 hr9 ha8 hbw9 ⊢
    clear hb hq8 hr8 ha7 hbw8 c0 c1 c2 c3 c4 c5 c6 c7 c8 c9
    obtain ⟨c0, c1, c2, c3, c4, c5, c6, c7, c8, c9⟩ := id hr9
    go_wp2_with fail
    obtain ⟨W9, hW9⟩ : ∃ W, W = w9.alloc (.cells #[.int .u64 u9.base, .int .i64 u9.cap, .int .i64 u9.tu, .bool u9.cyc, .int .i64 u9.scan, .slice u9.low.a u9.low.n u9.low.c, .slice u9.high.a u9.high.n u9.high.c, .slice u9.old.a u9.old.n u9.old.c, .slice u9.far.a u9.far.n u9.far.c, .slice u9.roots.a u9.roots.n u9.roots.c] 50) := ⟨_, rfl⟩
    rw [← hW9] at hs9 ha9 hr9 ha8 hbw9 ⊢
    obtain ⟨gr, hgr⟩ : ∃ g, g = w8.heap.size := ⟨_, rfl⟩
    rw [← hgr] at hr9 ⊢
    obtain ⟨gs, hgs⟩ : ∃ g, g = w9.heap.size := ⟨_, rfl⟩
    rw [← hgs] at hs9 ⊢
    clear hW9 hgr hgs c0 c1 c2 c3 c4 c5 c6 c7 c8 c9
    refine (HE.out _ _ ha8).mono ?_
    intro e w10 hr
    obtain ⟨rfl, hb⟩ := hr.both
    have hr10 := hr9.below hb
    have hs10 := hs9.below hb
    have ha8 := ha8.below hb
    have ha9 := ha9.below hb
    have hbw10 := bl_step hbw9 hb
    clear hr hb hr9 hs9 hbw9
    obtain ⟨c0, c1, c2, c3, c4, c5, c6, c7, c8, c9⟩ := id hs10
    go_wp2_with fail
    refine (HF.out _ _ ha9).mono ?_
    intro e w11 hr
    obtain ⟨rfl, hb⟩ := hr.both
    have hr11 := hr10.below hb
    have hs11 := hs10.below hb
    have ha8 := ha8.below hb
    have ha9 := ha9.below hb
    have hbw11 := bl_step hbw10 hb
    clear hr hb hr10 hs10 hbw10 c0 c1 c2 c3 c4 c5 c6 c7 c8 c9
    obtain ⟨c0, c1, c2, c3, c4, c5, c6, c7, c8, c9⟩ := id hr11
    obtain ⟨d0, d1, d2, d3, d4, d5, d6, d7, d8, d9⟩ := id hs11
    go_wp2_with fail
    refine (HSM.out _ _ _ ha8 ha9).mono ?_
    intro e w12 hr
    obtain ⟨rfl, hb⟩ := hr.both
    go_wp2
    go_ret
    exact ⟨rfl, bl_step hbw11 hb⟩
end Go.Proofs.Ytappejihclmjmaa
