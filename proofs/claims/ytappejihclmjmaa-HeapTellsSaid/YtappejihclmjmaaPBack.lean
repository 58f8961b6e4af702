/-
  PlacesBack: the walk of the law. Conditions: integers that fit.
-/
import Derived.Test.YtappejihclmjmaaPN
namespace Go.Proofs.Ytappejihclmjmaa
open Go.RowKit

def PBRel1 (l : Lay) (w : World) (m i : Value) (wr : World) : Prop := ∃ k : Int, 0 ≤ k ∧ k ≤ 2 * l.cap ∧ i = .int .i64 k ∧ m = .int .i64 (cnt l k) ∧ Below w.heap.size w wr
def PBRel2 (w : World) (i : Value) (wr : World) : Prop := ∃ p : Int, 1 ≤ p ∧ p ≤ 5 ∧ i = .int .i64 p ∧ Below w.heap.size w wr
def PBRel3 (n : Int) (w : World) (i : Value) (wr : World) : Prop := ∃ k : Int, 0 ≤ k ∧ k ≤ n ∧ i = .int .i64 k ∧ Below w.heap.size w wr

set_option maxRecDepth 100000 in
set_option maxHeartbeats 4000000 in
theorem pback_walk (b n0 n1 n2 n3 n4 n5 : Int) (w : World) (hb : 0 ≤ b ∧ b < 18446744073709551616) (g0 : -9223372036854775808 ≤ n0 ∧ n0 ≤ 9223372036854775807) (g1 : -9223372036854775808 ≤ n1 ∧ n1 ≤ 9223372036854775807) (g2 : -9223372036854775808 ≤ n2 ∧ n2 ≤ 9223372036854775807)
    (g3 : -9223372036854775808 ≤ n3 ∧ n3 ≤ 9223372036854775807) (g4 : -9223372036854775808 ≤ n4 ∧ n4 ≤ 9223372036854775807) (g5 : -9223372036854775808 ≤ n5 ∧ n5 ≤ 9223372036854775807) :
    Calls Try.prog 4 #[.int .u64 b, .agg #[.int .i64 n0, .int .i64 n1, .int .i64 n2, .int .i64 n3, .int .i64 n4, .int .i64 n5]] w (RetTrue w) := by
  have HLY := Lib.hid fun W => layout_any b n0 n1 n2 n3 n4 n5 W hb g0 g1 g2 g3 g4 g5
  have hok := layOf_ok b n0 n1 n2 n3 n4 n5
  obtain ⟨l, hl⟩ : ∃ l, l = layOf b n0 n1 n2 n3 n4 n5 := ⟨_, rfl⟩
  rw [← hl] at HLY hok
  clear hl hb g0 g1 g2 g3 g4 g5
  obtain ⟨hok, hcap⟩ := hok
  have HN := Lib.hid fun y W a b => find_none l y W hok a b
  have HS := Lib.hid fun y W a b => find_some l y W hok a b
  have HSB := Lib.hid fun y => find_b l y hok
  have HAF := Lib.hid fun y W => address_found l y W hok
  have HAI := Lib.hid fun p i W => address_in l p i W hok
  have HFI := Lib.hid fun p i W => find_in l p i W hok
  have HSZ := Lib.hid fun (w : World) (s : Nat) (h : FourAt w s .i64 l.low l.high l.old l.far) => h.size
  have HCZ := Lib.hid (cnt_zero l hok)
  have HCA := Lib.hid (cnt_all l hok)
  have HCS := Lib.hid fun i => cnt_step l hok i
  have HCB := Lib.hid fun i => cnt_bound l hok i
  have HOB := Lib.hid fun p => off_in l hok p
  have HAB := Lib.hid fun p => at_b l hok p
  have HFO := Lib.hid fun y => fndK_out l hok y
  have k1 : 1 ≤ l.base := hok.1
  have k2 : 0 ≤ l.cap := hok.2.1
  have k4 : l.base + 2 * l.cap ≤ 9223372036854775808 := hok.2.2.2.1
  have k4' : l.base ≤ 9223372036854775808 - 2 * l.cap := by omega
  have kl : 0 ≤ l.low ∧ l.low ≤ 40 ∧ 0 ≤ l.high ∧ l.high ≤ 40 ∧ 0 ≤ l.old ∧ l.old ≤ 40 ∧ 0 ≤ l.far ∧ l.far ≤ 40 := by
    obtain ⟨_, _, _, _, _, a, b, c, d, e, f⟩ := hok
    omega
  obtain ⟨kl1, kl2, kl3, kl4, kl5, kl6, kl7, kl8⟩ := kl
  have HOK := Lib.hid hok
  clear hok
  simp only [Lay.cells] at HLY HN HS HAF HAI HFI
  go_enter Try.func4, Try.ntmps4
  go_wp2_with fail
  refine (awake7_any _).mono ?_
  intro e w1 hr
  obtain ⟨rfl, x, rfl⟩ := hr.later
  have hbx : Below w.heap.size w x.w := bl_step (bl_alloc (bl_refl w) _) x.below
  go_wp2_with fail
  refine (HLY.out _).mono ?_
  intro e w2 hr2
  obtain ⟨rfl, hb2⟩ := hr2.both
  have hbw2 := bl_step hbx hb2
  have hl := LayAt.lit w2 l 24
  have hbw3 : Below w.heap.size w (w2.alloc (.cells l.cells 24)) := bl_alloc hbw2 _
  clear hr hr2 hb2 hbx hbw2 x HLY
  simp only [Lay.cells] at hl hbw3
  go_wp2_with fail
  obtain ⟨W3, hW3⟩ : ∃ W3, W3 = w2.alloc (.cells #[.int .u64 l.base, .int .i64 l.cap, .int .i64 l.to, .int .i64 l.low, .int .i64 l.high, .int .i64 l.old, .int .i64 l.far] 24) := ⟨_, rfl⟩
  rw [← hW3] at hl hbw3 ⊢
  clear hW3
  obtain ⟨g, hg⟩ : ∃ g, g = w2.heap.size := ⟨_, rfl⟩
  rw [← hg] at hl ⊢
  clear hg w2
  go_loopw [7, 8] (fun m i wr => PBRel1 l W3 m i wr) (fun _ i _ => (2 * l.cap - intOf i).toNat)
  case atStart => exact ⟨0, by omega, by omega, rfl, by rw [HCZ.out], bl_refl _⟩
  case round =>
    obtain ⟨k, hk0, hk, rfl, rfl, hb⟩ := hrel
    have hl1 := hl.below hb
    obtain ⟨c0, c1, c2, c3, c4, c5, c6⟩ := id hl1
    have hgz := World.block_lt_of_cell? wr _ c0
    have hcb := HCB.out k hk0
    obtain ⟨hcb1, hcb2, hcb3⟩ := hcb
    by_cases hlt : k < 2 * l.cap
    · have hstep := HCS.out k hk0
      by_cases hf : fndK l (l.base + k) = 0
      · rw [if_pos hf, Int.add_zero] at hstep
        have HST := Lib.hid hstep
        have HF := Lib.hid fun W => HN.out (l.base + k) W (by omega) (by omega) hf
        clear hstep hf
        obtain ⟨w8', rfl⟩ : ∃ w8' : World, w8' = wr := ⟨_, rfl⟩
        go_wp2_with fail
        refine (HF.out _).mono ?_
        intro e w4 hr
        obtain ⟨rfl, hb4⟩ := hr.both
        clear c0 c1 c2 c3 c4 c5 c6 hgz
        go_wp2
        exact ⟨⟨k + 1, by omega, by omega, rfl, by rw [HST.out], bl_alloc (bl_step hb hb4) _⟩, by simp [intOf]; omega⟩
      · rw [if_neg hf] at hstep
        have HST := Lib.hid hstep
        have hF := fun W => HS.out (l.base + k) W (by omega) (by omega) hf
        have hA := fun W => HAF.out (l.base + k) W hf
        obtain ⟨P, hP⟩ : ∃ P, P = fndP l (l.base + k) := ⟨_, rfl⟩
        obtain ⟨I, hI⟩ : ∃ I, I = fndI l (l.base + k) := ⟨_, rfl⟩
        rw [← hP, ← hI] at hF hA
        have HF := Lib.hid hF
        have HA := Lib.hid hA
        clear hstep hf hP hI hF hA
        obtain ⟨w8', rfl⟩ : ∃ w8' : World, w8' = wr := ⟨_, rfl⟩
        go_wp2_with fail
        refine (HF.out _).mono ?_
        intro e w4 hr
        obtain ⟨rfl, hb4⟩ := hr.both
        have hl4 := hl1.below hb4
        clear c0 c1 c2 c3 c4 c5 c6 hgz
        obtain ⟨c0, c1, c2, c3, c4, c5, c6⟩ := id hl4
        have hgz := World.block_lt_of_cell? w4 _ c0
        go_wp2_with fail
        refine (HA.out _).mono ?_
        intro e w5 hr5
        obtain ⟨rfl, hb5⟩ := hr5.both
        have hl5 := (hl4.alloc _).below hb5
        clear c0 c1 c2 c3 c4 c5 c6 hgz
        obtain ⟨c0, c1, c2, c3, c4, c5, c6⟩ := id hl5
        go_wp2
        exact ⟨⟨k + 1, by omega, by omega, rfl, by rw [HST.out], bl_step (bl_alloc (bl_step hb hb4) _) hb5⟩, by simp [intOf]; omega⟩
    · obtain rfl : k = 2 * l.cap := by omega
      rw [HCA.out]
      have hbw4 := bl_alloc (bl_step hbw3 hb) (.cells #[.int .i64 l.low, .int .i64 l.high, .int .i64 l.old, .int .i64 l.far] 3)
      have hl4 := hl1.alloc (.cells #[.int .i64 l.low, .int .i64 l.high, .int .i64 l.old, .int .i64 l.far] 3)
      have hs4 := FourAt.lit wr .i64 l.low l.high l.old l.far 3
      clear hcb1 hcb2 hcb3 hlt
      go_wp2_with fail
      obtain ⟨W4, hW4⟩ : ∃ W4, W4 = wr.alloc (.cells #[.int .i64 l.low, .int .i64 l.high, .int .i64 l.old, .int .i64 l.far] 3) := ⟨_, rfl⟩
      rw [← hW4] at hl4 hs4 hbw4 ⊢
      clear hW4 c0 c1 c2 c3 c4 c5 c6 hgz hl1 hl hb hbw3
      obtain ⟨s, hs⟩ : ∃ s, s = wr.heap.size := ⟨_, rfl⟩
      rw [← hs] at hs4 ⊢
      clear hs
      go_loopw [14] (fun i wr => PBRel2 W4 i wr) (fun i _ => (5 - intOf i).toNat)
      case atStart => exact ⟨1, by omega, by omega, rfl, bl_refl _⟩
      case round =>
        obtain ⟨p, hp, hp5, rfl, hb⟩ := hrel
        by_cases hlt : p ≤ 4
        · obtain ⟨W5, rfl⟩ : ∃ W5 : World, W5 = wr := ⟨_, rfl⟩
          have hl5 := hl4.below hb
          have hs5 := hs4.below hb
          have hob := HOB.out p.toNat (by omega) (by omega)
          have HAI' := Lib.hid fun i W => HAI.out p i W hp hlt
          have HFI' := Lib.hid fun i W => HFI.out p i W hp hlt
          have HSZ' := Lib.hid fun (w : World) (h : FourAt w s .i64 l.low l.high l.old l.far) => HSZ.out w s h p hp hlt
          have hab := HAB.out p.toNat (by omega) (by omega)
          obtain ⟨n, hn⟩ : ∃ n, n = l.size p.toNat := ⟨_, rfl⟩
          obtain ⟨a, ha⟩ : ∃ a, a = l.at_ p.toNat := ⟨_, rfl⟩
          rw [← hn] at HAI' HFI' HSZ' hob
          rw [← ha, ← hn] at hab
          rw [← ha] at HAI' HFI'
          clear hn ha
          obtain ⟨_, hn0, _, _, hn1⟩ := hob
          obtain ⟨ha1, ha2, _, _⟩ := hab
          go_wp2_with fail
          go_loopw [15] (fun i wr => PBRel3 n W5 i wr) (fun i _ => (n - intOf i).toNat)
          case atStart => exact ⟨0, by omega, by omega, rfl, bl_refl _⟩
          case round =>
            obtain ⟨k, hk0, hk, rfl, hbi⟩ := hrel
            have hl6 := hl5.below hbi
            have hs6 := hs5.below hbi
            have hcell := HSZ'.out wr hs6
            have hpw : IntKind.i64.wrap (p - 1) = p - 1 := IntWalk.i64_in _ (by omega)
            have hp0 : 0 ≤ p - 1 := by omega
            have hp3 : p - 1 < 4 := by omega
            obtain ⟨w8', rfl⟩ : ∃ w8' : World, w8' = wr := ⟨_, rfl⟩
            by_cases hlk : k < n
            · have HA := Lib.hid fun W => HAI'.out k W hk0 hlk
              have HF := Lib.hid fun W => HFI'.out k W hk0 hlk
              obtain ⟨c0, c1, c2, c3, c4, c5, c6⟩ := id hl6
              have hgz := World.block_lt_of_cell? w8' _ c0
              go_wp2_with fail
              refine (HA.out _).mono ?_
              intro e w6 hr
              obtain ⟨rfl, hb6⟩ := hr.both
              have hl7 := hl6.below hb6
              clear c0 c1 c2 c3 c4 c5 c6 hgz hcell
              obtain ⟨c0, c1, c2, c3, c4, c5, c6⟩ := id hl7
              have hgz := World.block_lt_of_cell? w6 _ c0
              go_wp2_with fail
              refine (HF.out _).mono ?_
              intro e w7 hr
              obtain ⟨rfl, hb7⟩ := hr.both
              clear c0 c1 c2 c3 c4 c5 c6 hgz
              go_wp2
              exact ⟨⟨k + 1, by omega, by omega, rfl, bl_alloc (bl_step (bl_step hbi hb6) hb7) _⟩, by simp [intOf]; omega⟩
            · go_wp2
              exact ⟨⟨p + 1, by omega, by omega, rfl, bl_step hb hbi⟩, by simp [intOf]; omega⟩
        · obtain ⟨W5, rfl⟩ : ∃ W5 : World, W5 = wr := ⟨_, rfl⟩
          have hl5 := hl4.below hb
          have hbw5 := bl_step hbw4 hb
          have HF1 := Lib.hid fun W => HN.out (l.base - 1) W (by omega) (by omega) (HFO.out _ (by omega))
          have HF2 := Lib.hid fun W => HN.out (l.base + 2 * l.cap) W (by omega) (by omega) (HFO.out _ (by omega))
          obtain ⟨c0, c1, c2, c3, c4, c5, c6⟩ := id hl5
          go_wp2_with fail
          refine (HF1.out _).mono ?_
          intro e w6 hr
          obtain ⟨rfl, hb6⟩ := hr.both
          have hl6 := hl5.below hb6
          have hbw6 := bl_step hbw5 hb6
          clear c0 c1 c2 c3 c4 c5 c6
          obtain ⟨c0, c1, c2, c3, c4, c5, c6⟩ := id hl6
          have hgz := World.block_lt_of_cell? w6 _ c0
          go_wp2_with fail
          refine (HF2.out _).mono ?_
          intro e w7 hr7
          obtain ⟨rfl, hb7⟩ := hr7.both
          have hl7 := (hl6.alloc _).below hb7
          have hbw7 := bl_step (bl_alloc hbw6 _) hb7
          clear c0 c1 c2 c3 c4 c5 c6 hgz
          obtain ⟨c0, c1, c2, c3, c4, c5, c6⟩ := id hl7
          have hgz := World.block_lt_of_cell? w7 _ c0
          go_wp2
          go_ret
          exact ⟨rfl, bl_alloc hbw7 _⟩
end Go.Proofs.Ytappejihclmjmaa
