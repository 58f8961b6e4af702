/-
  PlacesOrder: the walk of the law. Conditions: integers that fit.
-/
import Derived.Test.YtappejihclmjmaaPBack
import Derived.Test.YtappejihclmjmaaTail
import Derived.BigQuiet
import Derived.IntWalk
namespace Go.Proofs.Ytappejihclmjmaa
open Go.RowKit
attribute [local go_sem ↓] Go.wp_at_zero Go.wp_at_succ

theorem firsts_at {w : World} {s : Nat} {l : Lay} {t f : Int} (ht : t = l.at_ 1) (hf : f = l.at_ 3) (h : FourAt w s .u64 t (t + (l.cap - l.high)) f (f + (l.cap - l.far))) (p : Int) (h1 : 1 ≤ p) (h4 : p ≤ 4) :
    w.cell? ⟨s, p.toNat - 1, none⟩ = some (.int .u64 (l.at_ p.toNat)) := by
  obtain ⟨c0, c1, c2, c3⟩ := h
  obtain rfl | rfl | rfl | rfl : p = 1 ∨ p = 2 ∨ p = 3 ∨ p = 4 := by omega
  · rw [ht] at c0; exact c0
  · rw [show (2 : Int).toNat = 2 from rfl, c1, ht]
    congr 2
    simp only [Lay.at_, Lay.off]
    omega
  · rw [hf] at c2; exact c2
  · rw [show (4 : Int).toNat = 4 from rfl, c3, hf]
    congr 2
    simp only [Lay.at_, Lay.off]
    omega

set_option maxRecDepth 100000 in
set_option maxHeartbeats 4000000 in
theorem porder_walk (b n0 n1 n2 n3 n4 n5 : Int) (w : World) (hb : 0 ≤ b ∧ b < 18446744073709551616) (g0 : -9223372036854775808 ≤ n0 ∧ n0 ≤ 9223372036854775807) (g1 : -9223372036854775808 ≤ n1 ∧ n1 ≤ 9223372036854775807) (g2 : -9223372036854775808 ≤ n2 ∧ n2 ≤ 9223372036854775807)
    (g3 : -9223372036854775808 ≤ n3 ∧ n3 ≤ 9223372036854775807) (g4 : -9223372036854775808 ≤ n4 ∧ n4 ≤ 9223372036854775807) (g5 : -9223372036854775808 ≤ n5 ∧ n5 ≤ 9223372036854775807) :
    Calls Try.prog 6 #[.int .u64 b, .agg #[.int .i64 n0, .int .i64 n1, .int .i64 n2, .int .i64 n3, .int .i64 n4, .int .i64 n5]] w (RetTrue w) := by
  have HLY := Lib.hid fun W => layout_any b n0 n1 n2 n3 n4 n5 W hb g0 g1 g2 g3 g4 g5
  have hok := layOf_ok b n0 n1 n2 n3 n4 n5
  obtain ⟨l, hl⟩ : ∃ l, l = layOf b n0 n1 n2 n3 n4 n5 := ⟨_, rfl⟩
  rw [← hl] at HLY hok
  clear hl hb g0 g1 g2 g3 g4 g5
  obtain ⟨hok, hcap⟩ := hok
  have HAI := Lib.hid fun p i W => address_in l p i W hok
  have HAO := Lib.hid fun p i W => address_out l p i W hok
  have HSZ := Lib.hid fun (w : World) (s : Nat) (h : FourAt w s .i64 l.low l.high l.old l.far) => h.size
  have HFS := Lib.hid fun (w : World) (s : Nat) (t f : Int) => firsts_at (w := w) (s := s) (l := l) (t := t) (f := f)
  have HOB := Lib.hid fun p => off_in l hok p
  have HAB := Lib.hid fun p => at_b l hok p
  have htu : l.to = 0 ∨ l.to = 1 := hok.2.2.2.2.1
  have k1 : 1 ≤ l.base := hok.1
  have k2 : 0 ≤ l.cap := hok.2.1
  have k4 : l.base + 2 * l.cap ≤ 9223372036854775808 := hok.2.2.2.1
  have k4' : l.base ≤ 9223372036854775808 - 2 * l.cap := by omega
  have kl : 0 ≤ l.low ∧ l.low ≤ 40 ∧ 0 ≤ l.high ∧ l.high ≤ 40 ∧ 0 ≤ l.old ∧ l.old ≤ 40 ∧ 0 ≤ l.far ∧ l.far ≤ 40 ∧ l.low + l.high ≤ l.cap ∧ l.old + l.far ≤ l.cap := by
    obtain ⟨_, _, _, _, _, a, b, c, d, e, f⟩ := hok
    omega
  obtain ⟨kl1, kl2, kl3, kl4, kl5, kl6, kl7, kl8, kl9, kl10⟩ := kl
  have HOK := Lib.hid hok
  clear hok
  simp only [Lay.cells] at HLY HAI HAO
  go_enter Try.func6, Try.ntmps6
  go_wp2_with fail
  refine (awake7_any _).mono ?_
  intro e w1 hr
  obtain ⟨rfl, x, rfl⟩ := hr.later
  have hbx : Below w.heap.size w x.w := bl_step (bl_alloc (bl_refl w) _) x.below
  go_wp2_with fail
  refine (HLY.out _).mono ?_
  intro e w2 hr2
  obtain ⟨rfl, hb2⟩ := hr2.both
  have hbw2 := bl_step hbx hb2
  have hl := LayAt.lit w2 l 24
  have hbw3 : Below w.heap.size w (w2.alloc (.cells l.cells 24)) := bl_alloc hbw2 _
  simp only [Lay.cells] at hl hbw3
  clear hr hr2 hb2 hbx hbw2 x HLY
  rcases htu with hu | hu
  · have hu' : (l.to == 1) = false := by rw [hu]; rfl
    have HT := Lib.hid (show (l.base) = l.at_ 1 by simp [Lay.at_, Lay.off, hu])
    have HF := Lib.hid (show (l.base + l.cap) = l.at_ 3 by simp [Lay.at_, Lay.off, hu])
    clear hu
    have hl4 := (hl.alloc (.cells #[.int .u64 (l.base), .int .u64 (l.base + (l.cap - l.high)), .int .u64 (l.base + l.cap), .int .u64 (l.base + l.cap + (l.cap - l.far))] 22)).alloc (.cells #[.int .i64 l.low, .int .i64 l.high, .int .i64 l.old, .int .i64 l.far] 3)
    have hf4 := (FourAt.lit (w2.alloc (.cells #[.int .u64 l.base, .int .i64 l.cap, .int .i64 l.to, .int .i64 l.low, .int .i64 l.high, .int .i64 l.old, .int .i64 l.far] 24)) .u64 (l.base) (l.base + (l.cap - l.high)) (l.base + l.cap) (l.base + l.cap + (l.cap - l.far)) 22).alloc (.cells #[.int .i64 l.low, .int .i64 l.high, .int .i64 l.old, .int .i64 l.far] 3)
    have hs4 := FourAt.lit ((w2.alloc (.cells #[.int .u64 l.base, .int .i64 l.cap, .int .i64 l.to, .int .i64 l.low, .int .i64 l.high, .int .i64 l.old, .int .i64 l.far] 24)).alloc (.cells #[.int .u64 (l.base), .int .u64 (l.base + (l.cap - l.high)), .int .u64 (l.base + l.cap), .int .u64 (l.base + l.cap + (l.cap - l.far))] 22)) .i64 l.low l.high l.old l.far 3
    have hbw4 := bl_alloc (bl_alloc hbw3 (.cells #[.int .u64 (l.base), .int .u64 (l.base + (l.cap - l.high)), .int .u64 (l.base + l.cap), .int .u64 (l.base + l.cap + (l.cap - l.far))] 22)) (.cells #[.int .i64 l.low, .int .i64 l.high, .int .i64 l.old, .int .i64 l.far] 3)
    clear hl hbw3
    go_wp2_with fail
    clear hu'
    obtain ⟨W4, hW4⟩ : ∃ W4, W4 = ((w2.alloc (.cells #[.int .u64 l.base, .int .i64 l.cap, .int .i64 l.to, .int .i64 l.low, .int .i64 l.high, .int .i64 l.old, .int .i64 l.far] 24)).alloc (.cells #[.int .u64 (l.base), .int .u64 (l.base + (l.cap - l.high)), .int .u64 (l.base + l.cap), .int .u64 (l.base + l.cap + (l.cap - l.far))] 22)).alloc (.cells #[.int .i64 l.low, .int .i64 l.high, .int .i64 l.old, .int .i64 l.far] 3) := ⟨_, rfl⟩
    rw [← hW4] at hl4 hf4 hs4 hbw4 ⊢
    rw [show ((w2.alloc (.cells #[.int .u64 l.base, .int .i64 l.cap, .int .i64 l.to, .int .i64 l.low, .int .i64 l.high, .int .i64 l.old, .int .i64 l.far] 24)).alloc (.cells #[.int .u64 (l.base), .int .u64 (l.base + (l.cap - l.high)), .int .u64 (l.base + l.cap), .int .u64 (l.base + l.cap + (l.cap - l.far))] 22)).heap.size = w2.heap.size + 1 + 1 by simp] at hs4
    rw [show (w2.alloc (.cells #[.int .u64 l.base, .int .i64 l.cap, .int .i64 l.to, .int .i64 l.low, .int .i64 l.high, .int .i64 l.old, .int .i64 l.far] 24)).heap.size = w2.heap.size + 1 by simp] at hf4
    clear hW4
    obtain ⟨g, hg⟩ : ∃ g, g = w2.heap.size := ⟨_, rfl⟩
    rw [← hg] at hl4 hf4 hs4 ⊢
    clear hg
    go_loopw [11] (fun i wr => PBRel2 W4 i wr) (fun i _ => (5 - intOf i).toNat)
    case atStart => exact ⟨1, by omega, by omega, rfl, bl_refl _⟩
    case round =>
      obtain ⟨p, hp, hp5, rfl, hb⟩ := hrel
      by_cases hlt : p ≤ 4
      · obtain ⟨W5, rfl⟩ : ∃ W5 : World, W5 = wr := ⟨_, rfl⟩
        have hl5 := hl4.below hb
        have hs5 := hs4.below hb
        have hf5 := hf4.below hb
        have hob := HOB.out p.toNat (by omega) (by omega)
        have HAI' := Lib.hid fun i W => HAI.out p i W hp hlt
        have HAO' := Lib.hid fun i W a b => HAO.out p i W ⟨by omega, by omega⟩ a b
        have HSZ' := Lib.hid fun (w : World) (h : FourAt w (g + 1 + 1) .i64 l.low l.high l.old l.far) => HSZ.out w (g + 1 + 1) h p hp hlt
        have HFS' := Lib.hid fun (w : World) (h : FourAt w (g + 1) .u64 (l.base) (l.base + (l.cap - l.high)) (l.base + l.cap) (l.base + l.cap + (l.cap - l.far))) => HFS.out w (g + 1) _ _ HT.out HF.out h p hp hlt
        have hab := HAB.out p.toNat (by omega) (by omega)
        obtain ⟨n, hn⟩ : ∃ n, n = l.size p.toNat := ⟨_, rfl⟩
        obtain ⟨a, ha⟩ : ∃ a, a = l.at_ p.toNat := ⟨_, rfl⟩
        rw [← hn] at HAI' HAO' HSZ' hob
        rw [← ha, ← hn] at hab
        rw [← ha] at HAI' HFS'
        clear hn ha
        obtain ⟨_, hn0, _, _, hn1⟩ := hob
        obtain ⟨ha1, ha2, _, _⟩ := hab
        have hpw : IntKind.i64.wrap (p - 1) = p - 1 := IntWalk.i64_in _ (by omega)
        have hp0 : 0 ≤ p - 1 := by omega
        have hp3 : p - 1 < 4 := by omega
        go_wp2_with fail
        go_loopw [12] (fun i wr => PBRel3 n W5 i wr) (fun i _ => (n - intOf i).toNat)
        case atStart => exact ⟨0, by omega, by omega, rfl, bl_refl _⟩
        case round =>
          obtain ⟨k, hk0, hk, rfl, hbi⟩ := hrel
          have hl6 := hl5.below hbi
          have hs6 := hs5.below hbi
          have hf6 := hf5.below hbi
          have hcell := HSZ'.out wr hs6
          obtain ⟨w8', rfl⟩ : ∃ w8' : World, w8' = wr := ⟨_, rfl⟩
          by_cases hlk : k < n
          · have HA := Lib.hid fun W => HAI'.out k W hk0 hlk
            obtain ⟨c0, c1, c2, c3, c4, c5, c6⟩ := id hl6
            go_wp2_with fail
            refine (HA.out _).mono ?_
            intro e w6 hr
            obtain ⟨rfl, hb6⟩ := hr.both
            have hfc := HFS'.out w6 (hf6.below hb6)
            clear c0 c1 c2 c3 c4 c5 c6 hcell
            go_wp2
            exact ⟨⟨k + 1, by omega, by omega, rfl, bl_step hbi hb6⟩, by simp [intOf]; omega⟩
          · have HA1 := Lib.hid fun W => HAO'.out n W ⟨by omega, by omega⟩ (by omega)
            have HA2 := Lib.hid fun W => HAO'.out (-1) W ⟨by omega, by omega⟩ (by omega)
            obtain ⟨c0, c1, c2, c3, c4, c5, c6⟩ := id hl6
            have hgz := World.block_lt_of_cell? w8' _ c0
            have hgz2 := World.block_lt_of_cell? w8' _ hcell
            go_wp2_with fail
            refine wp_region_later (by kernel_rfl) (by kernel_rfl) ?_
            repeat (go_big_quiet_step ((with_reducible exact later_retB (HA1.out _))))
            refine wpQuiet_nil ?_
            intro _ hw'
            obtain ⟨y, hw''⟩ := hw'
            subst hw''
            have hl7 := hl6.below y.below
            clear c0 c1 c2 c3 c4 c5 c6 hcell hgz hgz2
            obtain ⟨c0, c1, c2, c3, c4, c5, c6⟩ := id hl7
            go_wp2_with fail
            refine (HA2.out _).mono ?_
            intro e w7 hr
            obtain ⟨rfl, hb7⟩ := hr.both
            go_wp2
            exact ⟨⟨p + 1, by omega, by omega, rfl, bl_step hb (bl_step (bl_step hbi y.below) hb7)⟩, by simp [intOf]; omega⟩
      · go_wp2
        go_ret
        exact ⟨rfl, bl_step hbw4 hb⟩
  · have hu' : (l.to == 1) = true := by rw [hu]; rfl
    have HT := Lib.hid (show (l.base + l.cap) = l.at_ 1 by simp [Lay.at_, Lay.off, hu])
    have HF := Lib.hid (show (l.base) = l.at_ 3 by simp [Lay.at_, Lay.off, hu])
    clear hu
    have hl4 := (hl.alloc (.cells #[.int .u64 (l.base + l.cap), .int .u64 (l.base + l.cap + (l.cap - l.high)), .int .u64 (l.base), .int .u64 (l.base + (l.cap - l.far))] 22)).alloc (.cells #[.int .i64 l.low, .int .i64 l.high, .int .i64 l.old, .int .i64 l.far] 3)
    have hf4 := (FourAt.lit (w2.alloc (.cells #[.int .u64 l.base, .int .i64 l.cap, .int .i64 l.to, .int .i64 l.low, .int .i64 l.high, .int .i64 l.old, .int .i64 l.far] 24)) .u64 (l.base + l.cap) (l.base + l.cap + (l.cap - l.high)) (l.base) (l.base + (l.cap - l.far)) 22).alloc (.cells #[.int .i64 l.low, .int .i64 l.high, .int .i64 l.old, .int .i64 l.far] 3)
    have hs4 := FourAt.lit ((w2.alloc (.cells #[.int .u64 l.base, .int .i64 l.cap, .int .i64 l.to, .int .i64 l.low, .int .i64 l.high, .int .i64 l.old, .int .i64 l.far] 24)).alloc (.cells #[.int .u64 (l.base + l.cap), .int .u64 (l.base + l.cap + (l.cap - l.high)), .int .u64 (l.base), .int .u64 (l.base + (l.cap - l.far))] 22)) .i64 l.low l.high l.old l.far 3
    have hbw4 := bl_alloc (bl_alloc hbw3 (.cells #[.int .u64 (l.base + l.cap), .int .u64 (l.base + l.cap + (l.cap - l.high)), .int .u64 (l.base), .int .u64 (l.base + (l.cap - l.far))] 22)) (.cells #[.int .i64 l.low, .int .i64 l.high, .int .i64 l.old, .int .i64 l.far] 3)
    clear hl hbw3
    go_wp2_with fail
    clear hu'
    obtain ⟨W4, hW4⟩ : ∃ W4, W4 = ((w2.alloc (.cells #[.int .u64 l.base, .int .i64 l.cap, .int .i64 l.to, .int .i64 l.low, .int .i64 l.high, .int .i64 l.old, .int .i64 l.far] 24)).alloc (.cells #[.int .u64 (l.base + l.cap), .int .u64 (l.base + l.cap + (l.cap - l.high)), .int .u64 (l.base), .int .u64 (l.base + (l.cap - l.far))] 22)).alloc (.cells #[.int .i64 l.low, .int .i64 l.high, .int .i64 l.old, .int .i64 l.far] 3) := ⟨_, rfl⟩
    rw [← hW4] at hl4 hf4 hs4 hbw4 ⊢
    rw [show ((w2.alloc (.cells #[.int .u64 l.base, .int .i64 l.cap, .int .i64 l.to, .int .i64 l.low, .int .i64 l.high, .int .i64 l.old, .int .i64 l.far] 24)).alloc (.cells #[.int .u64 (l.base + l.cap), .int .u64 (l.base + l.cap + (l.cap - l.high)), .int .u64 (l.base), .int .u64 (l.base + (l.cap - l.far))] 22)).heap.size = w2.heap.size + 1 + 1 by simp] at hs4
    rw [show (w2.alloc (.cells #[.int .u64 l.base, .int .i64 l.cap, .int .i64 l.to, .int .i64 l.low, .int .i64 l.high, .int .i64 l.old, .int .i64 l.far] 24)).heap.size = w2.heap.size + 1 by simp] at hf4
    clear hW4
    obtain ⟨g, hg⟩ : ∃ g, g = w2.heap.size := ⟨_, rfl⟩
    rw [← hg] at hl4 hf4 hs4 ⊢
    clear hg
    go_loopw [11] (fun i wr => PBRel2 W4 i wr) (fun i _ => (5 - intOf i).toNat)
    case atStart => exact ⟨1, by omega, by omega, rfl, bl_refl _⟩
    case round =>
      obtain ⟨p, hp, hp5, rfl, hb⟩ := hrel
      by_cases hlt : p ≤ 4
      · obtain ⟨W5, rfl⟩ : ∃ W5 : World, W5 = wr := ⟨_, rfl⟩
        have hl5 := hl4.below hb
        have hs5 := hs4.below hb
        have hf5 := hf4.below hb
        have hob := HOB.out p.toNat (by omega) (by omega)
        have HAI' := Lib.hid fun i W => HAI.out p i W hp hlt
        have HAO' := Lib.hid fun i W a b => HAO.out p i W ⟨by omega, by omega⟩ a b
        have HSZ' := Lib.hid fun (w : World) (h : FourAt w (g + 1 + 1) .i64 l.low l.high l.old l.far) => HSZ.out w (g + 1 + 1) h p hp hlt
        have HFS' := Lib.hid fun (w : World) (h : FourAt w (g + 1) .u64 (l.base + l.cap) (l.base + l.cap + (l.cap - l.high)) (l.base) (l.base + (l.cap - l.far))) => HFS.out w (g + 1) _ _ HT.out HF.out h p hp hlt
        have hab := HAB.out p.toNat (by omega) (by omega)
        obtain ⟨n, hn⟩ : ∃ n, n = l.size p.toNat := ⟨_, rfl⟩
        obtain ⟨a, ha⟩ : ∃ a, a = l.at_ p.toNat := ⟨_, rfl⟩
        rw [← hn] at HAI' HAO' HSZ' hob
        rw [← ha, ← hn] at hab
        rw [← ha] at HAI' HFS'
        clear hn ha
        obtain ⟨_, hn0, _, _, hn1⟩ := hob
        obtain ⟨ha1, ha2, _, _⟩ := hab
        have hpw : IntKind.i64.wrap (p - 1) = p - 1 := IntWalk.i64_in _ (by omega)
        have hp0 : 0 ≤ p - 1 := by omega
        have hp3 : p - 1 < 4 := by omega
        go_wp2_with fail
        go_loopw [12] (fun i wr => PBRel3 n W5 i wr) (fun i _ => (n - intOf i).toNat)
        case atStart => exact ⟨0, by omega, by omega, rfl, bl_refl _⟩
        case round =>
          obtain ⟨k, hk0, hk, rfl, hbi⟩ := hrel
          have hl6 := hl5.below hbi
          have hs6 := hs5.below hbi
          have hf6 := hf5.below hbi
          have hcell := HSZ'.out wr hs6
          obtain ⟨w8', rfl⟩ : ∃ w8' : World, w8' = wr := ⟨_, rfl⟩
          by_cases hlk : k < n
          · have HA := Lib.hid fun W => HAI'.out k W hk0 hlk
            obtain ⟨c0, c1, c2, c3, c4, c5, c6⟩ := id hl6
            go_wp2_with fail
            refine (HA.out _).mono ?_
            intro e w6 hr
            obtain ⟨rfl, hb6⟩ := hr.both
            have hfc := HFS'.out w6 (hf6.below hb6)
            clear c0 c1 c2 c3 c4 c5 c6 hcell
            go_wp2
            exact ⟨⟨k + 1, by omega, by omega, rfl, bl_step hbi hb6⟩, by simp [intOf]; omega⟩
          · have HA1 := Lib.hid fun W => HAO'.out n W ⟨by omega, by omega⟩ (by omega)
            have HA2 := Lib.hid fun W => HAO'.out (-1) W ⟨by omega, by omega⟩ (by omega)
            obtain ⟨c0, c1, c2, c3, c4, c5, c6⟩ := id hl6
            have hgz := World.block_lt_of_cell? w8' _ c0
            have hgz2 := World.block_lt_of_cell? w8' _ hcell
            go_wp2_with fail
            refine wp_region_later (by kernel_rfl) (by kernel_rfl) ?_
            repeat (go_big_quiet_step ((with_reducible exact later_retB (HA1.out _))))
            refine wpQuiet_nil ?_
            intro _ hw'
            obtain ⟨y, hw''⟩ := hw'
            subst hw''
            have hl7 := hl6.below y.below
            clear c0 c1 c2 c3 c4 c5 c6 hcell hgz hgz2
            obtain ⟨c0, c1, c2, c3, c4, c5, c6⟩ := id hl7
            go_wp2_with fail
            refine (HA2.out _).mono ?_
            intro e w7 hr
            obtain ⟨rfl, hb7⟩ := hr.both
            go_wp2
            exact ⟨⟨p + 1, by omega, by omega, rfl, bl_step hb (bl_step (bl_step hbi y.below) hb7)⟩, by simp [intOf]; omega⟩
      · go_wp2
        go_ret
        exact ⟨rfl, bl_step hbw4 hb⟩
end Go.Proofs.Ytappejihclmjmaa
