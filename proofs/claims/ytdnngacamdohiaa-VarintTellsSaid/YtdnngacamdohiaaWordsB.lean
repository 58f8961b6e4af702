/-
  The walks of the reference's functions for layer 2: bytes of a number, the number of bytes. Conditions: lengths that fit, as typed.
-/
import Derived.Test.YtdnngacamdohiaaWordsA
import Derived.Lib.Strings
namespace Go.Proofs.Ytdnngacamdohiaa
open Go.RowKit

def ValRel (l : List UInt8) (v i : Value) : Prop := NumRel l v i

theorem add_byte (a : Nat) (b : UInt8) (ha : a < 72057594037927936) :
    IntKind.u64.wrap (IntKind.u64.wrap (256 * (a : Int)) + IntKind.u64.wrap (b.toNat : Int)) = ((b.toNat + 256 * a : Nat) : Int) := by
  have hb := b.toNat_lt
  simp only [IntKind.wrap_u64]
  omega
theorem val_rel (s : ByteArray) (j : Nat) (h1 : 1 ≤ j) (hj : j ≤ s.size) (hl : s.size ≤ 8) {h : j - 1 < s.size} :
    ValRel s.data.toList (.int .u64 (IntKind.u64.wrap (IntKind.u64.wrap (256 * ((leV (s.data.toList.drop j) : Nat) : Int)) + IntKind.u64.wrap ((s[j - 1]'h).toNat : Int)))) (.int .i64 ((j : Int) - 1 - 1)) :=
  ⟨j - 1, by simp; omega, by congr 1; omega, by rw [bget, add_byte _ _ (leV_drop_lt _ j (by simpa using hl) h1), leV_drop _ j h1 (by simpa using hj)]⟩

set_option maxHeartbeats 400000 in
theorem refvalue_any (s : ByteArray) (w : World) (hl : s.size ≤ 8) :
    Calls Try.prog 42 #[.string s] w fun e w' => e = .returned (.int .u64 ((leV s.data.toList : Nat) : Int)) ∧ w = w' := by
  go_enter Try.func42, Try.ntmps42
  go_wp2
  go_loop [3, 4] (fun v i => ValRel s.data.toList v i) (fun _ i => (intOf i + 1).toNat)
  case atStart => exact ⟨s.size, Nat.le_refl _, rfl, by rw [List.drop_of_length_le (by simp)]; rfl⟩
  case round =>
    obtain ⟨j, hj, rfl, rfl⟩ := hrel
    have hj' : j ≤ s.size := by simpa using hj
    by_cases h1 : 1 ≤ j
    · have h2 : (j : Int) - 1 < s.size := by omega
      go_wp2
      exact ⟨val_rel s j h1 hj' hl, by simp [intOf]; omega⟩
    · obtain rfl : j = 0 := by omega
      go_wp2
      go_ret
      exact ⟨by simp, rfl⟩

def BytRel (v k : Nat) (w : World) (o i : Value) (wr : World) : Prop :=
  ∃ j, j ≤ k ∧ i = .int .i64 (j : Int) ∧ wr.ownsRow w.heap.size 5 1 o j (bs (leB v j)) ∧ Below w.heap.size w wr

theorem byte_cell (v j : Nat) : ((v : Int) / 2 ^ (8 * j)).tmod 256 % 256 = ((UInt8.ofNat (v / 256 ^ j)).toNat : Int) := by
  have e : ((v : Int) / 2 ^ (8 * j)) = ((v / 256 ^ j : Nat) : Int) := by
    rw [Int.pow_mul]
    simp
  rw [e, Int.tmod_eq_emod_of_nonneg (Int.natCast_nonneg _)]
  simp

set_option maxHeartbeats 400000 in
theorem refbytes_any (v k : Nat) (w : World) (_hv : v < 18446744073709551616) (hk : k ≤ 8) :
    Calls Try.prog 39 #[.int .u64 (v : Int), .int .i64 (k : Int)] w fun e w' => e = .returned (.string ⟨(leB v k).toArray⟩) ∧ Below w.heap.size w w' := by
  obtain ⟨i0, hi, hz0, hz1, hz2⟩ := info_parts info_u8
  go_enter Try.func39, Try.ntmps39
  go_wp2
  go_loopw [5, 6] (fun o i wr => BytRel v k w o i wr) (fun _ i _ => k - (intOf i).toNat)
  case atStart => exact ⟨0, Nat.zero_le _, rfl, World.ownsRow_nil _ _ _ _, Below.refl _ _⟩
  case round =>
    obtain ⟨j, hj, rfl, ho, hb⟩ := hrel
    by_cases hlt : j < k
    · have hbc := byte_cell v j
      have hsz := hb.size
      go_wp2_with (at_builtin; refine wpList_append_own _ rfl _ _ 43 rfl w.heap.size 5 i0 (.int .u8 0) 1 1 Try.underlying43 hi hz0 hz1 hz2 rfl (by decide) _ _ _ rfl (ho.alloc _) ⟨wr.heap.size, 0, none⟩ 1 1 [.int .u8 ((UInt8.ofNat (v / 256 ^ j)).toNat : Int)] rfl rfl ?c1 ?c2 ?c3 ?c4 ?c5 ?_)
      case c1 =>
        intro q u hq
        match q, hq with
        | 0, hq => simp at hq; subst hq; simp [Addr.add]
      case c2 => intro u hu; simp at hu; subst hu; rfl
      case c3 => unfold maxLen; omega
      case c4 => omega
      case c5 => simp; omega
      intro v' w1 ho' hg _
      have hb1 : Below w.heap.size w w1 := (hb.alloc (by omega) _).grown hg (by simp; omega) (fun q hq => (ho.lt q hq).1)
      clear ho hg hb hsz hbc
      go_wp2
      go_roundw
      case rel => exact ⟨j + 1, by omega, by go_num, by rw [lay_cells v j _ rfl]; simpa using ho', hb1⟩
      case measure => simp [intOf]; omega
    · obtain rfl : j = k := by omega
      obtain ⟨A, c, rfl⟩ := own_form ho
      have hcv := conv_back (P := Try.prog) wr 43 9 5 A c (leB v j) Try.underlying43 Try.underlying5 Try.underlying9 (Rd.of_own ho).1
      rw [leB_len] at hcv
      go_wp2
      go_ret
      exact ⟨rfl, hb⟩
end Go.Proofs.Ytdnngacamdohiaa
