/-
  The walks of package words' small functions: bytes laid behind others, the number of bytes. Conditions: a length that fits, as typed.
-/
import Derived.Test.YtdnngacamdohiaaBase
import Derived.Test.YtdnngacamdohiaaPlain
import Derived.Lib.Hide
namespace Go.Proofs.Ytdnngacamdohiaa
open Go.RowKit

theorem info_u8 : (Try.prog.info? 5).map (fun i => (i.zero, i.size, i.bytes)) = some (some (.int .u8 0), 1, 1) := by kernel_rfl
theorem info_u64 : (Try.prog.info? 40).map (fun i => (i.zero, i.size, i.bytes)) = some (some (.int .u64 0), 1, 8) := by kernel_rfl

/-- The call hands back a slice of its own, that holds xs; below B nothing has turned. -/
def RetOwn (B e n : Nat) (xs : List Value) (w : World) (en : Ending) (w' : World) : Prop := ∃ v, en = .returned v ∧ w'.ownsRow B e 1 v n xs ∧ Below B w w'

def LayRel (B n : Nat) (xs : List Value) (v k : Nat) (w : World) (s x i : Value) (wr : World) : Prop :=
  ∃ j, j ≤ k ∧ i = .int .i64 (j : Int) ∧ x = .int .u64 ((v / 256 ^ j : Nat) : Int) ∧ wr.ownsRow B 5 1 s (n + j) (xs ++ bs (leB v j)) ∧ Below B w wr

theorem lay_cells (v j x : Nat) (hx : x = v / 256 ^ j) : bs (leB v (j + 1)) = bs (leB v j) ++ [Value.int .u8 ((x : Int) % 256)] := by
  rw [leB_succ, ← hx]; simp [bs]
theorem lay_next (v j x : Nat) (hx : x = v / 256 ^ j) : ((x : Int) / 256) = ((v / 256 ^ (j + 1) : Nat) : Int) := by
  rw [Nat.pow_succ, ← Nat.div_div_eq_div_mul, ← hx]; rfl
theorem lay_rel {B n : Nat} {xs : List Value} {v k : Nat} {w w1 : World} {v' : Value} {j x : Nat} (hj : j + 1 ≤ k) (hx : x = v / 256 ^ j) (hb : Below B w w1)
    (ho : w1.ownsRow B 5 1 v' (n + j + 1) (xs ++ (bs (leB v j) ++ [Value.int .u8 ((x : Int) % 256)]))) :
    LayRel B n xs v k w v' (.int .u64 ((x : Int) / 256)) (.int .i64 ((j : Int) + 1)) w1 :=
  ⟨j + 1, hj, by go_num, by rw [lay_next v j x hx], by rw [lay_cells v j x hx]; exact ho, hb⟩

set_option maxHeartbeats 400000 in
theorem lay64_any (B : Nat) (sv : Value) (n : Nat) (xs : List Value) (v k : Nat) (w : World) (hown : w.ownsRow B 5 1 sv n xs) (hB : B ≤ w.heap.size)
    (hk : n + k ≤ 1000000) (hv : v < 18446744073709551616) :
    Calls Try.prog 38 #[sv, .int .u64 (v : Int), .int .i64 (k : Int)] w (RetOwn B 5 (n + k) (xs ++ bs (leB v k)) w) := by
  obtain ⟨i0, hi, hz0, hz1, hz2⟩ := info_parts info_u8
  go_enter Try.func38, Try.ntmps38
  go_wp2
  go_loopw [0, 1, 8] (fun s x i wr => LayRel B n xs v k w s x i wr) (fun _ _ i _ => k - (intOf i).toNat)
  case atStart => exact ⟨0, Nat.zero_le _, rfl, by simp, by simpa [leB_zero, bs] using hown, Below.refl _ _⟩
  case round =>
    obtain ⟨j, hj, rfl, rfl, ho, hb⟩ := hrel
    obtain ⟨x, hx⟩ : ∃ x, x = v / 256 ^ j := ⟨_, rfl⟩
    rw [← hx]
    have hx64 : x < 18446744073709551616 := by rw [hx]; exact Nat.lt_of_le_of_lt (Nat.div_le_self _ _) hv
    have HX := Lib.hid hx
    clear hx
    have hsz := hb.size
    by_cases hlt : j < k
    · go_wp2_with (at_builtin; refine wpList_append_own _ rfl _ _ 43 rfl B 5 i0 (.int .u8 0) 1 1 Try.underlying43 hi hz0 hz1 hz2 rfl (by decide) _ _ _ rfl (ho.alloc _) ⟨wr.heap.size, 0, none⟩ 1 1 [.int .u8 ((UInt8.ofNat x).toNat : Int)] rfl rfl ?c1 ?c2 ?c3 ?c4 ?c5 ?_)
      case c1 =>
        intro q u hq
        match q, hq with
        | 0, hq => simp at hq; subst hq; simp [Addr.add]
      case c2 => intro u hu; simp at hu; subst hu; rfl
      case c3 => unfold maxLen; omega
      case c4 => omega
      case c5 => simp; omega
      intro v' w1 ho' hg _
      have hb1 : Below B w w1 := (hb.alloc (by omega) _).grown hg (by simp; omega) (fun q hq => (ho.lt q hq).1)
      clear ho hg hb hsz
      go_wp2
      go_roundw
      case rel => exact lay_rel (by omega) HX.out hb1 ho'
      case measure => simp [intOf]; omega
    · go_wp2
      go_ret
      obtain rfl : j = k := by omega
      exact ⟨_, rfl, ho, hb⟩
def LayRel32 (B n : Nat) (xs : List Value) (v k : Nat) (w : World) (s x i : Value) (wr : World) : Prop :=
  ∃ j, j ≤ k ∧ i = .int .i64 (j : Int) ∧ x = .int .u32 ((v / 256 ^ j : Nat) : Int) ∧ wr.ownsRow B 5 1 s (n + j) (xs ++ bs (leB v j)) ∧ Below B w wr

theorem lay_rel32 {B n : Nat} {xs : List Value} {v k : Nat} {w w1 : World} {v' : Value} {j x : Nat} (hj : j + 1 ≤ k) (hx : x = v / 256 ^ j) (hb : Below B w w1)
    (ho : w1.ownsRow B 5 1 v' (n + j + 1) (xs ++ (bs (leB v j) ++ [Value.int .u8 ((x : Int) % 256)]))) :
    LayRel32 B n xs v k w v' (.int .u32 ((x : Int) / 256)) (.int .i64 ((j : Int) + 1)) w1 :=
  ⟨j + 1, hj, by go_num, by rw [lay_next v j x hx], by rw [lay_cells v j x hx]; exact ho, hb⟩

set_option maxHeartbeats 400000 in
theorem lay32_any (B : Nat) (sv : Value) (n : Nat) (xs : List Value) (v k : Nat) (w : World) (hown : w.ownsRow B 5 1 sv n xs) (hB : B ≤ w.heap.size)
    (hk : n + k ≤ 1000000) (hv : v < 4294967296) :
    Calls Try.prog 40 #[sv, .int .u32 (v : Int), .int .i64 (k : Int)] w (RetOwn B 5 (n + k) (xs ++ bs (leB v k)) w) := by
  obtain ⟨i0, hi, hz0, hz1, hz2⟩ := info_parts info_u8
  go_enter Try.func40, Try.ntmps40
  go_wp2
  go_loopw [0, 1, 8] (fun s x i wr => LayRel32 B n xs v k w s x i wr) (fun _ _ i _ => k - (intOf i).toNat)
  case atStart => exact ⟨0, Nat.zero_le _, rfl, by simp, by simpa [leB_zero, bs] using hown, Below.refl _ _⟩
  case round =>
    obtain ⟨j, hj, rfl, rfl, ho, hb⟩ := hrel
    obtain ⟨x, hx⟩ : ∃ x, x = v / 256 ^ j := ⟨_, rfl⟩
    rw [← hx]
    have hx32 : x < 4294967296 := by rw [hx]; exact Nat.lt_of_le_of_lt (Nat.div_le_self _ _) hv
    have HX := Lib.hid hx
    clear hx
    have hsz := hb.size
    by_cases hlt : j < k
    · go_wp2_with (at_builtin; refine wpList_append_own _ rfl _ _ 43 rfl B 5 i0 (.int .u8 0) 1 1 Try.underlying43 hi hz0 hz1 hz2 rfl (by decide) _ _ _ rfl (ho.alloc _) ⟨wr.heap.size, 0, none⟩ 1 1 [.int .u8 ((UInt8.ofNat x).toNat : Int)] rfl rfl ?c1 ?c2 ?c3 ?c4 ?c5 ?_)
      case c1 =>
        intro q u hq
        match q, hq with
        | 0, hq => simp at hq; subst hq; simp [Addr.add]
      case c2 => intro u hu; simp at hu; subst hu; rfl
      case c3 => unfold maxLen; omega
      case c4 => omega
      case c5 => simp; omega
      intro v' w1 ho' hg _
      have hb1 : Below B w w1 := (hb.alloc (by omega) _).grown hg (by simp; omega) (fun q hq => (ho.lt q hq).1)
      clear ho hg hb hsz
      go_wp2
      go_roundw
      case rel => exact lay_rel32 (by omega) HX.out hb1 ho'
      case measure => simp [intOf]; omega
    · go_wp2
      go_ret
      obtain rfl : j = k := by omega
      exact ⟨_, rfl, ho, hb⟩

/-! ### the number of bytes -/
def NumRel (l : List UInt8) (v i : Value) : Prop := ∃ j, j ≤ l.length ∧ i = .int .i64 ((j : Int) - 1) ∧ v = .int .u64 ((leV (l.drop j) : Nat) : Int)

theorem or_byte (a : Nat) (b : UInt8) (ha : a < 72057594037927936) :
    bits .or .u64 (IntKind.u64.wrap ((a : Int) * 256)) (IntKind.u64.wrap (b.toNat : Int)) = ((b.toNat + 256 * a : Nat) : Int) := by
  have hb := b.toNat_lt
  rw [show IntKind.u64.wrap ((a : Int) * 256) = ((a * 256 : Nat) : Int) by rw [IntKind.wrap_u64]; omega, show IntKind.u64.wrap (b.toNat : Int) = ((b.toNat : Nat) : Int) by rw [IntKind.wrap_u64]; omega,
    u64_or_nat _ _ (by omega) (by omega), nat_join 8 _ _ (by omega) (by omega), Nat.add_comm, Nat.mul_comm]
theorem num_rel (l : List UInt8) (j : Nat) (h1 : 1 ≤ j) (hj : j ≤ l.length) (hl : l.length ≤ 8) :
    NumRel l (.int .u64 (bits .or .u64 (IntKind.u64.wrap ((leV (l.drop j) : Nat) * 256 : Int)) (IntKind.u64.wrap ((l[j - 1]?.getD 0).toNat : Int)))) (.int .i64 ((j : Int) - 1 - 1)) :=
  ⟨j - 1, by omega, by congr 1; omega, by rw [or_byte _ _ (leV_drop_lt l j hl h1), leV_drop l j h1 hj]⟩

set_option maxHeartbeats 400000 in
theorem number_any (A : Option Addr) (l : List UInt8) (m c : Nat) (w : World) (hr : Rd w A (bs l)) (hm : l.length = m) (hl : m ≤ 8) :
    Calls Try.prog 43 #[.slice A m c] w fun e w' => e = .returned (.int .u64 ((leV l : Nat) : Int)) ∧ w = w' := by
  subst hm
  go_enter Try.func43, Try.ntmps43
  go_wp2
  go_loop [3, 4] (fun v i => NumRel l v i) (fun _ i => (intOf i + 1).toNat)
  case atStart => exact ⟨l.length, Nat.le_refl _, rfl, by simp [leV]⟩
  case round =>
    obtain ⟨j, hj, rfl, rfl⟩ := hrel
    by_cases h1 : 1 ≤ j
    · obtain ⟨b, off, rfl, hb, hc⟩ := hr.bs_at (k := j - 1) (by omega)
      go_wp2
      exact ⟨num_rel l j h1 hj hl, by simp [intOf]; omega⟩
    · obtain rfl : j = 0 := by omega
      go_wp2
      go_ret
      exact ⟨by simp, rfl⟩
end Go.Proofs.Ytdnngacamdohiaa
