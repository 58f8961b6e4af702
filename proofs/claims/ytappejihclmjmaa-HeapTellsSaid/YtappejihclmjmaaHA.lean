/-
  Heaps as values; contracts of layer 10: Layout of both, Part, With. No condition but a part's number.
-/
import Derived.Test.YtappejihclmjmaaHPlain
import Derived.Test.YtappejihclmjmaaPM
namespace Go.Proofs.Ytappejihclmjmaa
open Go.RowKit

/-- A slice as a value. -/
structure Sl where
  a : Option Addr
  n : Nat
  c : Nat
def Sl.v (s : Sl) : Value := .slice s.a s.n s.c
def Sl.nil : Sl := ⟨none, 0, 0⟩
/-- A heap as a value. -/
structure Hv where
  base : Int
  cap : Int
  tu : Int
  cyc : Bool
  scan : Int
  low : Sl
  high : Sl
  old : Sl
  far : Sl
  roots : Sl
def Hv.cells (v : Hv) : Array Value := #[.int .u64 v.base, .int .i64 v.cap, .int .i64 v.tu, .bool v.cyc, .int .i64 v.scan, v.low.v, v.high.v, v.old.v, v.far.v, v.roots.v]
def Hv.lay (v : Hv) : Lay := ⟨v.base, v.cap, v.tu, (v.low.n : Int), (v.high.n : Int), (v.old.n : Int), (v.far.n : Int)⟩
def Hv.part (v : Hv) (p : Int) : Sl := if p = 1 then v.low else if p = 2 then v.high else if p = 3 then v.old else v.far
def Hv.with (v : Hv) (p : Int) (s : Sl) : Hv := if p = 1 then { v with low := s } else if p = 2 then { v with high := s } else if p = 3 then { v with old := s } else { v with far := s }

/-- The slice reads as the list. -/
def Sl.Is (s : Sl) (w : World) (l : List Nat) : Prop := l.length = s.n ∧ s.n ≤ s.c ∧ s.c ≤ 9223372036854775807 ∧ Rd w s.a (us l)
theorem Sl.Is.below {s : Sl} {w w' : World} {l : List Nat} (h : s.Is w l) (hb : Below w.heap.size w w') : s.Is w' l := ⟨h.1, h.2.1, h.2.2.1, h.2.2.2.below hb⟩
/-- The value reads as the heap. -/
def Hv.Is (v : Hv) (w : World) (h : Hp) : Prop :=
  (v.base = h.base ∧ v.cap = h.cap ∧ v.tu = h.to ∧ v.cyc = h.cyc ∧ v.scan = h.scan) ∧ v.low.Is w h.low ∧ v.high.Is w h.high ∧ v.old.Is w h.old ∧ v.far.Is w h.far ∧ v.roots.Is w h.roots
theorem Hv.Is.below {v : Hv} {w w' : World} {h : Hp} (k : v.Is w h) (hb : Below w.heap.size w w') : v.Is w' h :=
  ⟨k.1, k.2.1.below hb, k.2.2.1.below hb, k.2.2.2.1.below hb, k.2.2.2.2.1.below hb, k.2.2.2.2.2.below hb⟩
theorem Hv.Is.lay {v : Hv} {w : World} {h : Hp} (k : v.Is w h) : v.lay = h.lay := by
  obtain ⟨⟨h1, h2, h3, _, _⟩, ⟨h4, _⟩, ⟨h5, _⟩, ⟨h6, _⟩, ⟨h7, _⟩, _⟩ := k
  unfold Hv.lay Hp.lay
  rw [h1, h2, h3, h4, h5, h6, h7]

set_option maxRecDepth 100000 in
set_option maxHeartbeats 1000000 in
theorem hlayout_any (v : Hv) (w : World) : Calls Try.prog 36 #[.agg v.cells] w (RetB (.agg v.lay.cells) w) := by
  obtain ⟨base, cap, tu, cyc, scan, ⟨a1, m1, c1⟩, ⟨a2, m2, c2⟩, ⟨a3, m3, c3⟩, ⟨a4, m4, c4⟩, ⟨a5, m5, c5⟩⟩ := v
  simp only [Hv.cells, Hv.lay, Lay.cells, Sl.v]
  go_enter Try.func36, Try.ntmps36
  go_wp2
  exact bodyPost_ret (v := .agg #[.int .u64 base, .int .i64 cap, .int .i64 tu, .int .i64 m1, .int .i64 m2, .int .i64 m3, .int .i64 m4]) (by simp [results, Try.results36, go_sem]) rfl
    ⟨rfl, bl_alloc (bl_alloc (bl_refl w) _) _⟩

set_option maxRecDepth 100000 in
set_option maxHeartbeats 1000000 in
theorem rhlayout_any (v : Hv) (w : World) : Calls Try.prog 37 #[.agg v.cells] w (RetB (.agg v.lay.cells) w) := by
  obtain ⟨base, cap, tu, cyc, scan, ⟨a1, m1, c1⟩, ⟨a2, m2, c2⟩, ⟨a3, m3, c3⟩, ⟨a4, m4, c4⟩, ⟨a5, m5, c5⟩⟩ := v
  simp only [Hv.cells, Hv.lay, Lay.cells, Sl.v]
  go_enter Try.func37, Try.ntmps37
  go_wp2
  exact bodyPost_ret (v := .agg #[.int .u64 base, .int .i64 cap, .int .i64 tu, .int .i64 m1, .int .i64 m2, .int .i64 m3, .int .i64 m4]) (by simp [results, Try.results37, go_sem]) rfl
    ⟨rfl, bl_alloc (bl_alloc (bl_refl w) _) _⟩

set_option maxRecDepth 100000 in
set_option maxHeartbeats 1000000 in
theorem part_any (v : Hv) (p : Int) (w : World) (hp : 1 ≤ p) (hp4 : p ≤ 4) : Calls Try.prog 34 #[.agg v.cells, .int .i64 p] w (RetB (v.part p).v w) := by
  obtain ⟨base, cap, tu, cyc, scan, ⟨a1, m1, c1⟩, ⟨a2, m2, c2⟩, ⟨a3, m3, c3⟩, ⟨a4, m4, c4⟩, ⟨a5, m5, c5⟩⟩ := v
  simp only [Hv.cells, Sl.v]
  obtain rfl | rfl | rfl | rfl : p = 1 ∨ p = 2 ∨ p = 3 ∨ p = 4 := by omega
  all_goals
    go_enter Try.func34, Try.ntmps34
    go_wp2
    go_ret
    exact ⟨rfl, bl_alloc (bl_refl w) _⟩

set_option maxRecDepth 100000 in
set_option maxHeartbeats 1000000 in
theorem with_any (v : Hv) (p : Int) (s : Sl) (w : World) (hp : 1 ≤ p) (hp4 : p ≤ 4) : Calls Try.prog 33 #[.agg v.cells, .int .i64 p, s.v] w (RetB (.agg (v.with p s).cells) w) := by
  obtain ⟨base, cap, tu, cyc, scan, ⟨a1, m1, c1⟩, ⟨a2, m2, c2⟩, ⟨a3, m3, c3⟩, ⟨a4, m4, c4⟩, ⟨a5, m5, c5⟩⟩ := v
  obtain ⟨a6, m6, c6⟩ := s
  simp only [Hv.cells, Sl.v]
  obtain rfl | rfl | rfl | rfl : p = 1 ∨ p = 2 ∨ p = 3 ∨ p = 4 := by omega
  · go_enter Try.func33, Try.ntmps33
    go_wp2
    exact bodyPost_ret (v := .agg #[.int .u64 base, .int .i64 cap, .int .i64 tu, .bool cyc, .int .i64 scan, .slice a6 m6 c6, .slice a2 m2 c2, .slice a3 m3 c3, .slice a4 m4 c4, .slice a5 m5 c5]) (by simp [results, Try.results33, go_sem]) rfl
      ⟨rfl, bl_alloc (bl_alloc (bl_refl w) _) _⟩
  · go_enter Try.func33, Try.ntmps33
    go_wp2
    exact bodyPost_ret (v := .agg #[.int .u64 base, .int .i64 cap, .int .i64 tu, .bool cyc, .int .i64 scan, .slice a1 m1 c1, .slice a6 m6 c6, .slice a3 m3 c3, .slice a4 m4 c4, .slice a5 m5 c5]) (by simp [results, Try.results33, go_sem]) rfl
      ⟨rfl, bl_alloc (bl_alloc (bl_refl w) _) _⟩
  · go_enter Try.func33, Try.ntmps33
    go_wp2
    exact bodyPost_ret (v := .agg #[.int .u64 base, .int .i64 cap, .int .i64 tu, .bool cyc, .int .i64 scan, .slice a1 m1 c1, .slice a2 m2 c2, .slice a6 m6 c6, .slice a4 m4 c4, .slice a5 m5 c5]) (by simp [results, Try.results33, go_sem]) rfl
      ⟨rfl, bl_alloc (bl_alloc (bl_refl w) _) _⟩
  · go_enter Try.func33, Try.ntmps33
    go_wp2
    exact bodyPost_ret (v := .agg #[.int .u64 base, .int .i64 cap, .int .i64 tu, .bool cyc, .int .i64 scan, .slice a1 m1 c1, .slice a2 m2 c2, .slice a3 m3 c3, .slice a6 m6 c6, .slice a5 m5 c5]) (by simp [results, Try.results33, go_sem]) rfl
      ⟨rfl, bl_alloc (bl_alloc (bl_refl w) _) _⟩
end Go.Proofs.Ytappejihclmjmaa
