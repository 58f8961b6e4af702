/-
  Contract of layer 10: Same, of two values that read as the same heap: true. Condition: lengths that fit.
-/
import Derived.Test.YtappejihclmjmaaHG
import Derived.Test.YtappejihclmjmaaNums
import Derived.Test.YtappejihclmjmaaPBack
import Derived.Test.YtappejihclmjmaaTail
import Derived.BigQuiet
namespace Go.Proofs.Ytappejihclmjmaa
open Go.RowKit
attribute [local go_sem ↓] Go.wp_at_zero Go.wp_at_succ

theorem nums_yes (s t : Sl) (l : List Nat) (W : World) (hs : s.Is W l) (ht : t.Is W l) : Calls Try.prog 46 #[s.v, t.v] W (RetB (.bool true) W) := by
  obtain ⟨s1, s2, s3, s4⟩ := hs
  obtain ⟨t1, t2, t3, t4⟩ := ht
  have h := nums_any s.a t.a l l s.c t.c W s4 t4 (by omega)
  rw [show (Sl.v s) = .slice s.a l.length s.c by rw [Sl.v, s1], show (Sl.v t) = .slice t.a l.length t.c by rw [Sl.v, t1]]
  refine h.mono ?_
  rintro e w' ⟨rfl, n, rfl⟩
  exact ⟨by simp, bl_drewN (bl_refl _) n⟩

set_option maxRecDepth 100000 in
set_option maxHeartbeats 2000000 in
theorem same_any (v u : Hv) (h : Hp) (w : World) (hv : v.Is w h) (hu : u.Is w h) : Calls Try.prog 32 #[.agg v.cells, .agg u.cells] w (RetB (.bool true) w) := by
  have HP1 := Lib.hid fun p W a b => part_any v p W a b
  have HP2 := Lib.hid fun p W a b => part_any u p W a b
  have HN := Lib.hid fun (p : Int) (W : World) (a : 1 ≤ p) (b : p ≤ 4) (hb : Below w.heap.size w W) => by
    have e : ((p.toNat : Nat) : Int) = p := by omega
    have i1 := (hv.below hb).part p.toNat (by omega) (by omega)
    have i2 := (hu.below hb).part p.toNat (by omega) (by omega)
    rw [e] at i1 i2
    exact nums_yes (v.part p) (u.part p) (h.part p.toNat) W i1 i2
  have HR := Lib.hid fun (W : World) (hb : Below w.heap.size w W) => nums_yes v.roots u.roots h.roots W ((hv.below hb).2.2.2.2.2) ((hu.below hb).2.2.2.2.2)
  obtain ⟨e1, e2, e3, e4, e5⟩ := hv.1
  obtain ⟨g1, g2, g3, g4, g5⟩ := hu.1
  simp only [Hv.cells, Sl.v, e1, e2, e3, e4, e5, g1, g2, g3, g4, g5] at HP1 HP2 HR HN ⊢
  clear e1 e2 e3 e4 e5 g1 g2 g3 g4 g5 hv hu
  have ha := (HeapAt.lit w ⟨h.base, h.cap, h.to, h.cyc, h.scan, v.low, v.high, v.old, v.far, v.roots⟩ 50).alloc (.cells #[.int .u64 h.base, .int .i64 h.cap, .int .i64 h.to, .bool h.cyc, .int .i64 h.scan, .slice u.low.a u.low.n u.low.c, .slice u.high.a u.high.n u.high.c, .slice u.old.a u.old.n u.old.c, .slice u.far.a u.far.n u.far.c, .slice u.roots.a u.roots.n u.roots.c] 50)
  have hu2 := HeapAt.lit (w.alloc (.cells #[.int .u64 h.base, .int .i64 h.cap, .int .i64 h.to, .bool h.cyc, .int .i64 h.scan, .slice v.low.a v.low.n v.low.c, .slice v.high.a v.high.n v.high.c, .slice v.old.a v.old.n v.old.c, .slice v.far.a v.far.n v.far.c, .slice v.roots.a v.roots.n v.roots.c] 50)) ⟨h.base, h.cap, h.to, h.cyc, h.scan, u.low, u.high, u.old, u.far, u.roots⟩ 50
  have hbw : Below w.heap.size w ((w.alloc (.cells #[.int .u64 h.base, .int .i64 h.cap, .int .i64 h.to, .bool h.cyc, .int .i64 h.scan, .slice v.low.a v.low.n v.low.c, .slice v.high.a v.high.n v.high.c, .slice v.old.a v.old.n v.old.c, .slice v.far.a v.far.n v.far.c, .slice v.roots.a v.roots.n v.roots.c] 50)).alloc (.cells #[.int .u64 h.base, .int .i64 h.cap, .int .i64 h.to, .bool h.cyc, .int .i64 h.scan, .slice u.low.a u.low.n u.low.c, .slice u.high.a u.high.n u.high.c, .slice u.old.a u.old.n u.old.c, .slice u.far.a u.far.n u.far.c, .slice u.roots.a u.roots.n u.roots.c] 50)) := bl_alloc (bl_alloc (bl_refl w) _) _
  rw [show (w.alloc (.cells #[.int .u64 h.base, .int .i64 h.cap, .int .i64 h.to, .bool h.cyc, .int .i64 h.scan, .slice v.low.a v.low.n v.low.c, .slice v.high.a v.high.n v.high.c, .slice v.old.a v.old.n v.old.c, .slice v.far.a v.far.n v.far.c, .slice v.roots.a v.roots.n v.roots.c] 50)).heap.size = w.heap.size + 1 by simp] at hu2
  simp only [Hv.cells, Sl.v] at ha hu2
  go_enter Try.func32, Try.ntmps32
  go_wp2_with fail
  obtain ⟨W2, hW2⟩ : ∃ W, W = (w.alloc (.cells #[.int .u64 h.base, .int .i64 h.cap, .int .i64 h.to, .bool h.cyc, .int .i64 h.scan, .slice v.low.a v.low.n v.low.c, .slice v.high.a v.high.n v.high.c, .slice v.old.a v.old.n v.old.c, .slice v.far.a v.far.n v.far.c, .slice v.roots.a v.roots.n v.roots.c] 50)).alloc (.cells #[.int .u64 h.base, .int .i64 h.cap, .int .i64 h.to, .bool h.cyc, .int .i64 h.scan, .slice u.low.a u.low.n u.low.c, .slice u.high.a u.high.n u.high.c, .slice u.old.a u.old.n u.old.c, .slice u.far.a u.far.n u.far.c, .slice u.roots.a u.roots.n u.roots.c] 50) := ⟨_, rfl⟩
  rw [← hW2] at ha hu2 hbw ⊢
  clear hW2
  go_loopw [5] (fun i wr => PBRel2 W2 i wr) (fun i _ => (5 - intOf i).toNat)
  case atStart => exact ⟨1, by omega, by omega, rfl, bl_refl _⟩
  case round =>
    obtain ⟨p, hp, hp5, rfl, hb⟩ := hrel
    obtain ⟨w3, rfl⟩ : ∃ w3 : World, w3 = wr := ⟨_, rfl⟩
    have hv3 := ha.below hb
    have hu3 := hu2.below hb
    have hbw3 := bl_step hbw hb
    obtain ⟨c0, c1, c2, c3, c4, c5, c6, c7, c8, c9⟩ := id hv3
    obtain ⟨d0, d1, d2, d3, d4, d5, d6, d7, d8, d9⟩ := id hu3
    simp only at c0 c1 c2 c3 c4 c5 c6 c7 c8 c9 d0 d1 d2 d3 d4 d5 d6 d7 d8 d9
    have z0 : w.heap.size < w3.heap.size := World.block_lt_of_cell? _ _ c0
    have z1 : w.heap.size + 1 < w3.heap.size := World.block_lt_of_cell? _ _ d0
    by_cases hlt : p ≤ 4
    · go_wp2_with fail
      refine wp_region_later (by kernel_rfl) (by kernel_rfl) ?_
      repeat (go_big_quiet_step ((first | with_reducible exact later_retB (HP1.out _ _ hp hlt) | with_reducible exact later_retB (HP2.out _ _ hp hlt) | with_reducible exact later_retB (HN.out _ _ hp hlt (bl_step hbw3 (Later.below _))))))
      refine wpQuiet_nil ?_
      intro _ hw'
      obtain ⟨x, hw''⟩ := hw'
      subst hw''
      go_wp2
      exact ⟨⟨p + 1, by omega, by omega, rfl, bl_step hb x.below⟩, by simp [intOf]; omega⟩
    · go_wp2_with fail
      refine (HR.out _ hbw3).mono ?_
      intro e w4 hr
      obtain ⟨rfl, hb4⟩ := hr.both
      go_wp2
      go_ret
      exact ⟨rfl, bl_step hbw3 hb4⟩
end Go.Proofs.Ytappejihclmjmaa
