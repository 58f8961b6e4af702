/-
  HeapParts: the walk of the law. Conditions: integers that fit.
-/
import Derived.Test.YtappejihclmjmaaHWords
namespace Go.Proofs.Ytappejihclmjmaa
open Go.RowKit
attribute [local go_sem ↓] Go.wp_at_zero Go.wp_at_succ

/-- How many words the parts ahead of one have. -/
def preL (H : Hp) (p : Nat) : Int :=
  match p with
  | 0 => 0
  | 1 => 0
  | 2 => H.low.length
  | 3 => (H.low.length : Int) + H.high.length
  | 4 => (H.low.length : Int) + H.high.length + H.old.length
  | _ => (H.low.length : Int) + H.high.length + H.old.length + H.far.length
theorem preL_succ (H : Hp) (p : Nat) (h1 : 1 ≤ p) (h4 : p ≤ 4) : preL H (p + 1) = preL H p + (H.part p).length := by
  obtain rfl | rfl | rfl | rfl : p = 1 ∨ p = 2 ∨ p = 3 ∨ p = 4 := by omega
  all_goals simp only [preL, Hp.part]
  omega
theorem preL_b (H : Hp) (p : Nat) (k1 : H.low.length ≤ 40) (k2 : H.high.length ≤ 40) (k3 : H.old.length ≤ 40) (k4 : H.far.length ≤ 40) : 0 ≤ preL H p ∧ preL H p ≤ 160 := by
  unfold preL; split <;> omega
theorem part_len (H : Hp) (p : Nat) (k1 : H.low.length ≤ 40) (k2 : H.high.length ≤ 40) (k3 : H.old.length ≤ 40) (k4 : H.far.length ≤ 40) : (H.part p).length ≤ 40 := by
  unfold Hp.part; split <;> assumption
/-- At a part's place there is that part's word. -/
theorem rd_part (H : Hp) (hok : H.lay.Ok) (p i : Int) (hp : 1 ≤ p) (hp4 : p ≤ 4) (h0 : 0 ≤ i) (hi : i < ((H.part p.toNat).length : Int)) :
    adrE H.lay p i = 0 ∧ 1 ≤ adrA H.lay p i ∧ adrA H.lay p i < 9223372036854775808 ∧ fndE H.lay (adrA H.lay p i) = 0 ∧ rdW H (adrA H.lay p i) = ((H.part p.toNat)[i.toNat]?).getD 0 := by
  have hs : i < H.lay.size p.toNat := by rw [lay_size]; exact hi
  have ha : adrA H.lay p i = H.lay.base + H.lay.off p.toNat + i := by rw [adrA, if_pos ⟨hok, hp, hp4, h0, hs⟩]
  have hk := fndK_of H.lay hok p.toNat (by omega) (by omega) (H.lay.base + H.lay.off p.toNat + i) (by unfold Lay.has; omega)
  have hf := find_adr H.lay hok p i hp hp4 h0 hs
  have ho := off_in H.lay hok p.toNat (by omega) (by omega)
  have hb := hok
  unfold Lay.Ok at hb
  rw [ha]
  refine ⟨by rw [adrE, if_pos hok, if_pos ⟨hp, hp4, h0, hs⟩], by omega, by omega, hf.2.2, ?_⟩
  rw [rdW, if_pos ⟨hok, by rw [hk]; omega⟩, hk, hf.2.1]
def HPRel (H : Hp) (w : World) (m p : Value) (wr : World) : Prop := ∃ k : Nat, 1 ≤ k ∧ k ≤ 5 ∧ p = .int .i64 (k : Int) ∧ m = .int .i64 (preL H k) ∧ Below w.heap.size w wr
def HPIn (s : Int) (n : Nat) (w : World) (m i : Value) (wr : World) : Prop := ∃ k : Nat, k ≤ n ∧ i = .int .i64 (k : Int) ∧ m = .int .i64 (s + (k : Int)) ∧ Below w.heap.size w wr
def HPEnd (H : Hp) (w : World) (m i : Value) (wr : World) : Prop := ∃ k : Int, 0 ≤ k ∧ k ≤ 2 * H.cap ∧ i = .int .i64 k ∧ m = .int .i64 (preL H 5 - cnt H.lay k) ∧ Below w.heap.size w wr

set_option maxRecDepth 100000 in
set_option maxHeartbeats 4000000 in
theorem hparts_walk (b n0 n1 n2 n3 n4 n5 : Int) (A : Option Addr) (ws : List Nat) (cap : Nat) (w : World) (hb : 0 ≤ b ∧ b < 18446744073709551616) (g0 : -9223372036854775808 ≤ n0 ∧ n0 ≤ 9223372036854775807) (g1 : -9223372036854775808 ≤ n1 ∧ n1 ≤ 9223372036854775807) (g2 : -9223372036854775808 ≤ n2 ∧ n2 ≤ 9223372036854775807) (g3 : -9223372036854775808 ≤ n3 ∧ n3 ≤ 9223372036854775807) (g4 : -9223372036854775808 ≤ n4 ∧ n4 ≤ 9223372036854775807) (g5 : -9223372036854775808 ≤ n5 ∧ n5 ≤ 9223372036854775807)
    (hr : Rd w A (us ws)) (hc : ws.length ≤ cap) (hm : cap ≤ 9223372036854775807) (hv : ∀ x ∈ ws, x < 18446744073709551616) :
    Calls Try.prog 13 #[.int .u64 b, .agg #[.int .i64 n0, .int .i64 n1, .int .i64 n2, .int .i64 n3, .int .i64 n4, .int .i64 n5], .slice A ws.length cap] w (RetTrue w) := by
  have HHP := Lib.hid fun W (a : Rd W A (us ws)) => heap_any b n0 n1 n2 n3 n4 n5 A ws cap W hb g0 g1 g2 g3 g4 g5 a (by omega) hv
  have hok := layOf_ok b n0 n1 n2 n3 n4 n5
  obtain ⟨l, hl⟩ : ∃ l, l = layOf b n0 n1 n2 n3 n4 n5 := ⟨_, rfl⟩
  rw [← hl] at HHP hok
  clear hl hb g0 g1 g2 g3 g4 g5
  obtain ⟨hok, hcap⟩ := hok
  have hll := hpL_lay l ws hok
  rw [← hll] at hok hcap
  have hrl : (hpL l ws).roots.length = 3 := smOf_len _ _ _
  obtain ⟨H, hH⟩ : ∃ H, H = hpL l ws := ⟨_, rfl⟩
  rw [← hH] at HHP hok hcap hrl
  have HRD := Lib.hid hr
  clear hH hll l hr hv
  have q1 : 1 ≤ H.base := hok.1
  have q2 : 0 ≤ H.cap := hok.2.1
  have q3 : H.cap ≤ 40 := hcap
  have q4 : H.base + 2 * H.cap ≤ 9223372036854775808 := hok.2.2.2.1
  have q5 : (H.low.length : Int) + H.high.length ≤ H.cap ∧ (H.old.length : Int) + H.far.length ≤ H.cap := by
    obtain ⟨_, _, _, _, _, _, _, c, _, _, f⟩ := hok
    exact ⟨c, f⟩
  have k1 : H.low.length ≤ 40 := by omega
  have k2 : H.high.length ≤ 40 := by omega
  have k3 : H.old.length ≤ 40 := by omega
  have k4 : H.far.length ≤ 40 := by omega
  have k5 : H.roots.length ≤ 40 := by omega
  clear q5 hrl hcap
  have HOK := Lib.hid hok
  clear hok
  have hok := HOK.out
  have HR1 := Lib.hid fun (v : Hv) (c : Int) (W : World) (a : v.Is W H) (b1 : 0 ≤ c) (b2 : c < 18446744073709551616) => read_any v H c W a (ok_wf hok) b1 b2
  have HAD := Lib.hid fun (p i : Int) (W : World) (a : 1 ≤ p ∧ p ≤ 4) (b : 0 ≤ i ∧ i ≤ 1000) => address_any H.lay p i W (ok_wf hok) (by omega) (by omega)
  have HRP := Lib.hid (rd_part H hok)
  have HCZ := Lib.hid (cnt_zero H.lay hok)
  have HCA := Lib.hid (show preL H 5 - cnt H.lay (2 * H.cap) = 0 by
    have := cnt_all H.lay hok
    have e : H.lay.cap = H.cap := rfl
    rw [e] at this
    rw [this]
    simp only [preL, Hp.lay]
    omega)
  have HCS := Lib.hid fun i => cnt_step H.lay hok i
  have HCB := Lib.hid fun i => cnt_bound H.lay hok i
  have HPS := Lib.hid (preL_succ H)
  have HPB := Lib.hid fun p => preL_b H p k1 k2 k3 k4
  have HPL := Lib.hid fun p => part_len H p k1 k2 k3 k4
  simp only [Hv.cells, Sl.v, Lay.cells] at HR1 HAD
  clear hok
  go_enter Try.func13, Try.ntmps13
  go_wp2_with fail
  refine (awake10_any _).mono ?_
  intro e w1 hr1
  obtain ⟨rfl, x, rfl⟩ := hr1.later
  have hb1 : Below w.heap.size w x.w := bl_step (bl_alloc (bl_refl w) _) x.below
  clear hr1
  go_wp2_with fail
  refine (HHP.out _ (HRD.out.below hb1)).mono ?_
  intro e w2 hr2
  obtain ⟨u, rfl, hu2, hb2⟩ := hr2
  obtain ⟨ub, uc, ut, uy, us_, low, high, old, far, roots⟩ := u
  obtain ⟨e1, e2, e3, e4, e5⟩ := hu2.1
  simp only at e1 e2 e3 e4 e5
  subst e1 e2 e3 e4 e5
  have hg2 := HeapAt.lit w2 ⟨H.base, H.cap, H.to, H.cyc, H.scan, low, high, old, far, roots⟩ 50
  have hu3 := hu2.below (bl_alloc (bl_refl w2) (.cells (Hv.cells ⟨H.base, H.cap, H.to, H.cyc, H.scan, low, high, old, far, roots⟩) 50))
  have hbw3 := bl_alloc (bl_step hb1 hb2) (.cells (Hv.cells ⟨H.base, H.cap, H.to, H.cyc, H.scan, low, high, old, far, roots⟩) 50)
  simp only [Hv.cells, Sl.v] at hg2 hu3 hbw3 ⊢
  clear hu2 hb2 hb1
  have HL := Lib.hid fun (W : World) => hlayout_any ⟨H.base, H.cap, H.to, H.cyc, H.scan, low, high, old, far, roots⟩ W
  rw [hu3.lay] at HL
  have HPT := Lib.hid fun (p : Int) (W : World) (a : 1 ≤ p) (b : p ≤ 4) => part_any ⟨H.base, H.cap, H.to, H.cyc, H.scan, low, high, old, far, roots⟩ p W a b
  have HR2 := Lib.hid fun c W a => HR1.out ⟨H.base, H.cap, H.to, H.cyc, H.scan, low, high, old, far, roots⟩ c W a
  simp only [Hv.cells, Sl.v, Lay.cells] at HL HPT HR2
  clear HR1
  go_wp2_with fail
  obtain ⟨W3, hW3⟩ : ∃ W, W = w2.alloc (.cells #[.int .u64 H.base, .int .i64 H.cap, .int .i64 H.to, .bool H.cyc, .int .i64 H.scan, .slice low.a low.n low.c, .slice high.a high.n high.c, .slice old.a old.n old.c, .slice far.a far.n far.c, .slice roots.a roots.n roots.c] 50) := ⟨_, rfl⟩
  rw [← hW3] at hg2 hu3 hbw3 ⊢
  obtain ⟨g, hg⟩ : ∃ g, g = w2.heap.size := ⟨_, rfl⟩
  rw [← hg] at hg2 ⊢
  clear hW3 hg x HHP HRD
  go_loopw [9, 10] (fun m p wr => HPRel H W3 m p wr) (fun _ p _ => (5 - intOf p).toNat)
  case atStart => exact ⟨1, by omega, by omega, rfl, rfl, bl_refl _⟩
  case round =>
    obtain ⟨k, hk1, hk5, rfl, rfl, hb⟩ := hrel
    obtain ⟨w4, rfl⟩ : ∃ w4 : World, w4 = wr := ⟨_, rfl⟩
    have hg4 := hg2.below hb
    have hu4 := hu3.below hb
    have hbw4 := bl_step hbw3 hb
    obtain ⟨c0, c1, c2, c3, c4, c5, c6, c7, c8, c9⟩ := id hg4
    simp only at c0 c1 c2 c3 c4 c5 c6 c7 c8 c9
    have hpb := HPB.out k
    by_cases hlt : k ≤ 4
    · have hsl := hu4.part k hk1 hlt
      have hps := HPS.out k hk1 hlt
      have hpl := HPL.out k
      have hrp := HRP.out (k : Int) 
      have hpt := HPT.out (k : Int)
      rw [Int.toNat_natCast] at hrp
      obtain ⟨S, hS⟩ : ∃ S, S = Hv.part ⟨H.base, H.cap, H.to, H.cyc, H.scan, low, high, old, far, roots⟩ (k : Int) := ⟨_, rfl⟩
      rw [← hS] at hsl hpt
      obtain ⟨L, hL⟩ : ∃ L, L = H.part k := ⟨_, rfl⟩
      rw [← hL] at hsl hps hpl hrp
      obtain ⟨s, hs⟩ : ∃ s, s = preL H k := ⟨_, rfl⟩
      rw [← hs] at hps hpb ⊢
      obtain ⟨sa, sn, sc⟩ := S
      obtain ⟨t1, t2, t3, t4⟩ := hsl
      simp only at t1 t2 t3 t4
      subst t1
      have HPS2 := Lib.hid hps
      have HRP2 := Lib.hid hrp
      have HPT2 := Lib.hid hpt
      have HRD4 := Lib.hid t4
      obtain ⟨hp0, hp1⟩ := hpb
      clear hS hL hs hps hrp hpt t4
      go_wp2_with fail
      refine (HPT2.out _ (by omega) (by omega)).mono ?_
      intro e w5 hr
      obtain ⟨rfl, hb5⟩ := hr.both
      have hg5 := hg4.below hb5
      have hu5 := hu4.below hb5
      have hbw5 := bl_step hbw4 hb5
      have hrd5 := HRD4.out.below hb5
      have hb := bl_step hb hb5
      clear hr hb5 hg4 hu4 hbw4 c0 c1 c2 c3 c4 c5 c6 c7 c8 c9 HRD4
      go_wp2_with fail
      go_loopw [9, 12] (fun m i wr => HPIn s L.length w5 m i wr) (fun _ i _ => L.length - (intOf i).toNat)
      case atStart => exact ⟨0, by omega, rfl, by simp, bl_refl _⟩
      case round =>
        obtain ⟨j, hj, rfl, rfl, hb6⟩ := hrel
        obtain ⟨w6, rfl⟩ : ∃ w6 : World, w6 = wr := ⟨_, rfl⟩
        have hb := bl_step hb hb6
        by_cases hjl : j < L.length
        · have hg6 := hg5.below hb6
          have hu6 := hu5.below hb6
          have hbw6 := bl_step hbw5 hb6
          obtain ⟨c0, c1, c2, c3, c4, c5, c6, c7, c8, c9⟩ := id hg6
          simp only at c0 c1 c2 c3 c4 c5 c6 c7 c8 c9
          have hrd6 := hrd5.below hb6
          obtain ⟨bb, off, hsa, hbl, hcell⟩ := hrd6.us_at hjl
          have hrp := HRP2.out (j : Int) (by omega) (by omega) (by omega) (by omega)
          rw [Int.toNat_natCast] at hrp
          obtain ⟨r1, r2, r3, r4, r5⟩ := hrp
          have ha := fun W => HAD.out (k : Int) (j : Int) W (by omega) (by omega)
          have hrr := fun W a => HR2.out (adrA H.lay (k : Int) (j : Int)) W a (by omega) (by omega)
          rw [r4, r5] at hrr
          rw [r1] at ha
          obtain ⟨X, hX⟩ : ∃ X, X = (L[j]?).getD 0 := ⟨_, rfl⟩
          rw [← hX] at hrr hcell
          obtain ⟨Y, hY⟩ : ∃ Y, Y = adrA H.lay (k : Int) (j : Int) := ⟨_, rfl⟩
          rw [← hY] at ha hrr r2 r3
          have ha' := Lib.hid ha
          have hrr' := Lib.hid hrr
          clear ha hrr hX hY r1 r4 r5 hg5 hu5 hbw5
          subst hsa
          go_wp2_with fail
          refine (HL.out _).mono ?_
          intro e w7 hr
          obtain ⟨rfl, hb7⟩ := hr.both
          have hg7 := hg6.below hb7
          have hu7 := hu6.below hb7
          have hc7 := cells_keep2 hcell hb7
          have hb := bl_step hb hb7
          have hb6 := bl_step hb6 hb7
          clear hr hb7 c0 c1 c2 c3 c4 c5 c6 c7 c8 c9 hg6 hu6 hcell hbw6
          go_wp2_with fail
          refine (ha'.out _).mono ?_
          intro e w8 hr
          obtain ⟨rfl, hb8⟩ := hr.both
          have hg8 := hg7.below hb8
          have hu8 := hu7.below hb8
          have hc8 := cells_keep2 hc7 hb8
          have hb := bl_step hb hb8
          have hb6 := bl_step hb6 hb8
          clear hr hb8 hg7 hu7 hc7
          obtain ⟨c0, c1, c2, c3, c4, c5, c6, c7, c8, c9⟩ := id hg8
          simp only at c0 c1 c2 c3 c4 c5 c6 c7 c8 c9
          go_wp2_with fail
          refine (hrr'.out _ hu8).mono ?_
          intro e w9 hr
          obtain ⟨rfl, hb9⟩ := hr.both
          have hc9 := cells_keep2 hc8 hb9
          have hb6 := bl_step hb6 hb9
          clear hr hb9 hg8 hu8 hc8 c0 c1 c2 c3 c4 c5 c6 c7 c8 c9
          go_wp2
          exact ⟨⟨j + 1, by omega, by go_num, by go_num, hb6⟩, by simp [intOf]; omega⟩
        · obtain rfl : j = L.length := by omega
          go_wp2
          exact ⟨⟨k + 1, by omega, by omega, by go_num, by rw [HPS2.out], hb⟩, by simp [intOf]; omega⟩
    · obtain rfl : k = 5 := by omega
      clear hlt hpb
      rw [show ((5 : Nat) : Int) = 5 from rfl]
      have hpb := HPB.out 5
      go_wp2_with fail
      go_loopw [9, 17] (fun m i wr => HPEnd H w4 m i wr) (fun _ i _ => (2 * H.cap - intOf i).toNat)
      case atStart => exact ⟨0, by omega, by omega, rfl, by rw [HCZ.out]; simp, bl_refl _⟩
      case round =>
        obtain ⟨j, hj0, hj, rfl, rfl, hb6⟩ := hrel
        obtain ⟨w6, rfl⟩ : ∃ w6 : World, w6 = wr := ⟨_, rfl⟩
        have hbw6 := bl_step hbw4 hb6
        have hcb := HCB.out j hj0
        obtain ⟨hcb1, hcb2, hcb3⟩ := hcb
        by_cases hjl : j < 2 * H.cap
        · have hg6 := hg4.below hb6
          have hu6 := hu4.below hb6
          clear c0 c1 c2 c3 c4 c5 c6 c7 c8 c9
          obtain ⟨c0, c1, c2, c3, c4, c5, c6, c7, c8, c9⟩ := id hg6
          simp only at c0 c1 c2 c3 c4 c5 c6 c7 c8 c9
          have hst := HCS.out j hj0
          have hrr := fun W a => HR2.out (H.base + j) W a (by omega) (by omega)
          have e : H.lay.base = H.base := rfl
          rw [e] at hst
          obtain ⟨cc, hcc⟩ : ∃ cc, cc = cnt H.lay j := ⟨_, rfl⟩
          rw [← hcc] at hst hcb1 hcb2 hcb3 ⊢
          clear hcc e
          obtain ⟨D, hD⟩ : ∃ D, D = rdW H (H.base + j) := ⟨_, rfl⟩
          rw [← hD] at hrr
          clear hD
          by_cases hf : fndK H.lay (H.base + j) = 0
          · rw [if_pos hf] at hst
            rw [fndE_none _ _ HOK.out hf] at hrr
            have HST := Lib.hid hst
            have hrr' := Lib.hid hrr
            clear hst hrr hf
            go_wp2_with fail
            refine (hrr'.out _ hu6).mono ?_
            intro e w7 hr
            obtain ⟨rfl, hb7⟩ := hr.both
            clear c0 c1 c2 c3 c4 c5 c6 c7 c8 c9
            go_wp2
            exact ⟨⟨j + 1, by omega, by omega, rfl, by rw [HST.out]; congr 1; omega, bl_step hb6 hb7⟩, by simp [intOf]; omega⟩
          · rw [if_neg hf] at hst
            rw [fndE_some _ _ HOK.out hf] at hrr
            have HST := Lib.hid hst
            have hrr' := Lib.hid hrr
            clear hst hrr hf
            obtain ⟨P5, hP5⟩ : ∃ P, P = preL H 5 := ⟨_, rfl⟩
            rw [← hP5] at hpb ⊢
            obtain ⟨hp0, hp1⟩ := hpb
            have HP5 := Lib.hid hP5
            clear hP5
            go_wp2_with fail
            refine (hrr'.out _ hu6).mono ?_
            intro e w7 hr
            obtain ⟨rfl, hb7⟩ := hr.both
            clear c0 c1 c2 c3 c4 c5 c6 c7 c8 c9
            go_wp2
            exact ⟨⟨j + 1, by omega, by omega, rfl, by rw [HST.out, ← HP5.out]; congr 1; omega, bl_step hb6 hb7⟩, by simp [intOf]; omega⟩
        · obtain rfl : j = 2 * H.cap := by omega
          rw [HCA.out]
          have hg6 := hg4.below hb6
          clear c0 c1 c2 c3 c4 c5 c6 c7 c8 c9
          obtain ⟨c0, c1, c2, c3, c4, c5, c6, c7, c8, c9⟩ := id hg6
          simp only at c0 c1 c2 c3 c4 c5 c6 c7 c8 c9
          go_wp2
          go_ret
          exact ⟨rfl, hbw6⟩
end Go.Proofs.Ytappejihclmjmaa
