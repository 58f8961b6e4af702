/-
  The walks of package varint's Row, Put, Len. Conditions: lengths that fit, as typed.
-/
import Derived.Test.YtdnngacamdohiaaBase
import Derived.Test.YtdnngacamdohiaaVPlain
import Derived.Lib.Hide
namespace Go.Proofs.Ytdnngacamdohiaa
open Go.RowKit

theorem vinfo_u8 : (Try.prog.info? 5).map (fun i => (i.zero, i.size, i.bytes)) = some (some (.int .u8 0), 1, 1) := by kernel_rfl

/-- The digits so far, and what is left. -/
def DigRel (B m : Nat) (pre : List UInt8) (v : Nat) (w : World) (b x : Value) (wr : World) : Prop :=
  ∃ k d y, d ++ vb k y = vB v ∧ y < 128 ^ (k + 1) ∧ y < 18446744073709551616 ∧ x = .int .u64 (y : Int) ∧ wr.ownsRow B 5 1 b (m + d.length) (bs (pre ++ d)) ∧ Below B w wr
def RowRel (l : List Nat) (w : World) (b i : Value) (wr : World) : Prop :=
  ∃ j, j ≤ l.length ∧ i = .int .i64 (j : Int) ∧ wr.ownsRow w.heap.size 5 1 b (rowB (l.take j)).length (bs (rowB (l.take j))) ∧ Below w.heap.size w wr

theorem dig_cell (y : Nat) : ((y : Int) % 128 + 128) = ((UInt8.ofNat (y % 128 + 128)).toNat : Int) := by
  rw [UInt8.toNat_ofNat']; omega
theorem last_cell (y : Nat) (h : y < 128) : (y : Int) = ((UInt8.ofNat y).toNat : Int) := by
  rw [UInt8.toNat_ofNat']; omega
theorem dig_rel {B m : Nat} {pre d : List UInt8} {v k y : Nat} {w w1 : World} {b' : Value} (h128 : 128 ≤ y) (hd : d ++ vb k y = vB v) (hy : y < 128 ^ (k + 1)) (h64 : y < 18446744073709551616)
    (ho : w1.ownsRow B 5 1 b' (m + d.length + 1) (bs (pre ++ d) ++ [Value.int .u8 ((y : Int) % 128 + 128)])) (hb : Below B w w1) :
    DigRel B m pre v w b' (.int .u64 ((y : Int) / 128)) w1 := by
  cases k with
  | zero => simp at hy; omega
  | succ k =>
    refine ⟨k, d ++ [UInt8.ofNat (y % 128 + 128)], y / 128, ?_, Nat.div_lt_of_lt_mul (by rw [Nat.mul_comm, ← Nat.pow_succ]; exact hy), by omega, by rw [Int.natCast_ediv]; rfl, ?_, hb⟩
    · rw [List.append_assoc, List.singleton_append, ← vb_more k y h128]; exact hd
    · rw [← List.append_assoc, bs_append, List.length_append, ← Nat.add_assoc]
      rw [dig_cell] at ho
      exact ho

theorem row_rel {l : List Nat} {w w1 : World} {b' : Value} {j v y : Nat} {q d : List UInt8} (hy : y < 128) (hlt : j < l.length) (hv : v = l[j]?.getD 0) (hq : q = rowB (l.take j)) (hd : d ++ [UInt8.ofNat y] = vB v)
    (ho : w1.ownsRow w.heap.size 5 1 b' (q.length + d.length + 1) (bs (q ++ d) ++ [Value.int .u8 (y : Int)])) (hb : Below w.heap.size w w1) :
    RowRel l w b' (.int .i64 ((j : Int) + 1)) w1 := by
  have e : rowB (l.take (j + 1)) = q ++ d ++ [UInt8.ofNat y] := by rw [rowB_succ l j hlt, ← hv, ← hd, ← hq, List.append_assoc]
  refine ⟨j + 1, hlt, by go_num, ?_, hb⟩
  rw [e, bs_append, List.length_append, List.length_append]
  rw [last_cell y hy] at ho
  exact ho

set_option maxRecDepth 100000 in
set_option maxHeartbeats 1000000 in
theorem row_any (A : Option Addr) (l : List Nat) (c : Nat) (w : World) (hr : Rd w A (us l)) (hl : l.length ≤ 10000) (hv : ∀ x ∈ l, x < 18446744073709551616) :
    Calls Try.prog 31 #[.slice A l.length c] w fun e w' => e = .returned (.string ⟨(rowB l).toArray⟩) ∧ Below w.heap.size w w' := by
  obtain ⟨i0, hi, hz0, hz1, hz2⟩ := info_parts vinfo_u8
  go_enter Try.func31, Try.ntmps31
  go_wp2
  go_loopw [3, 8] (fun b i wr => RowRel l w b i wr) (fun _ i _ => l.length - (intOf i).toNat)
  case atStart => exact ⟨0, Nat.zero_le _, rfl, World.ownsRow_nil _ _ _ _, bl_refl _⟩
  case round =>
    obtain ⟨j, hj, rfl, ho, hb⟩ := hrel
    by_cases hlt : j < l.length
    · obtain ⟨b, off, rfl, _, hc⟩ := (hr.below hb).us_at (k := j) hlt
      obtain ⟨v, hv0⟩ : ∃ v, v = l[j]?.getD 0 := ⟨_, rfl⟩
      have hv64 : v < 18446744073709551616 := by rw [hv0, List.getElem?_eq_getElem hlt]; exact hv _ (List.getElem_mem hlt)
      rw [← hv0] at hc
      have hlen : (rowB (l.take j)).length ≤ 100000 := by have := rowB_len (l.take j); rw [List.length_take] at this; omega
      obtain ⟨q, hq⟩ : ∃ q, q = rowB (l.take j) := ⟨_, rfl⟩
      rw [← hq] at ho hlen
      have HV0 := Lib.hid hv0
      have HQ := Lib.hid hq
      clear hv0 hq
      go_wp2
      obtain ⟨wo, rfl⟩ : ∃ wo : World, wo = wr := ⟨_, rfl⟩
      go_loopw [3, 5] (fun b x wr => DigRel w.heap.size q.length q v wo b x wr) (fun _ x _ => (intOf x).toNat)
      case atStart => exact ⟨9, [], v, rfl, by omega, hv64, rfl, by simpa using ho, Below.refl _ _⟩
      case round =>
        obtain ⟨k, d, y, hd, hyk, hy64, rfl, ho2, hb2⟩ := hrel
        have hdl : d.length ≤ 10 := by
          have := congrArg List.length hd
          have h1 := vB_len v
          rw [List.length_append] at this
          omega
        have HDL := Lib.hid hdl
        have HD := Lib.hid hd
        have HY := Lib.hid hyk
        clear hd hyk hdl
        by_cases h128 : 128 ≤ y
        · have hsz := hb2.size
          go_wp2_with (at_builtin; refine wpList_append_own _ rfl _ _ 43 rfl w.heap.size 5 i0 (.int .u8 0) 1 1 Try.underlying43 hi hz0 hz1 hz2 rfl (by decide) _ _ _ rfl (ho2.alloc _) ⟨wr.heap.size, 0, none⟩ 1 1 [.int .u8 ((y : Int) % 128 + 128)] rfl rfl ?c1 ?c2 ?c3 ?c4 ?c5 ?_)
          case c1 =>
            intro q u hq
            match q, hq with
            | 0, hq => simp at hq; subst hq; simp [Addr.add]
          case c2 => intro u hu; simp at hu; subst hu; rfl
          case c3 => have := HDL.out; unfold maxLen; omega
          case c4 => have := HDL.out; omega
          case c5 => have := hb.size; simp; omega
          intro v' w1 ho' hg _
          have hb1 : Below w.heap.size wo w1 := (hb2.alloc (by have := hb.size; omega) _).grown hg (by have := hb.size; simp; omega) (fun q hq => (ho2.lt q hq).1)
          clear ho2 hg hb2 hsz
          go_wp2
          go_roundw
          case rel => exact dig_rel h128 HD.out HY.out hy64 ho' hb1
          case measure => simp [intOf]; omega
        · have hsz := hb2.size
          have HF : Hid (d ++ [UInt8.ofNat y] = vB v) := Lib.hid (by rw [← vb_small k y (by omega)]; exact HD.out)
          go_wp2_with (at_builtin; refine wpList_append_own _ rfl _ _ 43 rfl w.heap.size 5 i0 (.int .u8 0) 1 1 Try.underlying43 hi hz0 hz1 hz2 rfl (by decide) _ _ _ rfl (ho2.alloc _) ⟨wr.heap.size, 0, none⟩ 1 1 [.int .u8 (y : Int)] rfl rfl ?d1 ?d2 ?d3 ?d4 ?d5 ?_)
          case d1 =>
            intro q u hq
            match q, hq with
            | 0, hq => simp at hq; subst hq; simp [Addr.add]
          case d2 => intro u hu; simp at hu; subst hu; rfl
          case d3 => have := HDL.out; unfold maxLen; omega
          case d4 => have := HDL.out; omega
          case d5 => have := hb.size; simp; omega
          intro v' w1 ho' hg _
          have hb1 : Below w.heap.size wo w1 := (hb2.alloc (by have := hb.size; omega) _).grown hg (by have := hb.size; simp; omega) (fun q hq => (ho2.lt q hq).1)
          clear ho2 hg hb2 hsz
          go_wp2
          exact ⟨row_rel (by omega) hlt HV0.out HQ.out HF.out ho' (hb.trans hb1), by simp [intOf]; omega⟩
    · obtain rfl : j = l.length := by omega
      rw [List.take_length] at ho
      obtain ⟨A1, c1, rfl⟩ := own_form ho
      have hcv := conv_back (P := Try.prog) wr 43 9 5 A1 c1 (rowB l) Try.underlying43 Try.underlying5 Try.underlying9 (Rd.of_own ho).1
      go_wp2
      go_ret
      exact ⟨by simp, hb⟩
end Go.Proofs.Ytdnngacamdohiaa
