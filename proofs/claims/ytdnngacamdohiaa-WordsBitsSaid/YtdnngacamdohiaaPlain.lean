/-
  Plain laws on numbers and their bytes, lowest first: no program in sight.
-/
namespace Go.Proofs.Ytdnngacamdohiaa

/-- The k lowest bytes of v, the lowest one first. -/
def leB (v : Nat) (k : Nat) : List UInt8 := (List.range k).map fun i => UInt8.ofNat (v / 256 ^ i)
/-- The number of bytes, the lowest one first. -/
def leV : List UInt8 → Nat
  | [] => 0
  | b :: r => b.toNat + 256 * leV r

theorem leB_zero (v : Nat) : leB v 0 = [] := rfl
theorem leB_succ (v k : Nat) : leB v (k + 1) = leB v k ++ [UInt8.ofNat (v / 256 ^ k)] := by
  simp [leB, List.range_succ]
theorem leB_len (v k : Nat) : (leB v k).length = k := by simp [leB]
theorem leB_cons (v k : Nat) : leB v (k + 1) = UInt8.ofNat v :: leB (v / 256) k := by
  simp only [leB, List.range_succ_eq_map, List.map_cons, List.map_map]
  congr 1
  · simp
  · refine List.map_congr_left fun i _ => ?_
    simp only [Function.comp, Nat.pow_succ, Nat.div_div_eq_div_mul, Nat.mul_comm]

theorem leV_leB (k : Nat) : ∀ v, leV (leB v k) = v % 256 ^ k := by
  induction k with
  | zero => intro v; simp [leB_zero, leV, Nat.mod_one]
  | succ k ih =>
    intro v
    rw [leB_cons, leV, ih, Nat.pow_succ, Nat.mul_comm (256 ^ k) 256, Nat.mod_mul]
    simp
theorem leV_lt (l : List UInt8) : leV l < 256 ^ l.length := by
  induction l with
  | nil => simp [leV]
  | cons b r ih =>
    have h2 := b.toNat_lt
    simp only [leV, List.length_cons, Nat.pow_succ]
    omega
theorem leB_leV (l : List UInt8) : leB (leV l) l.length = l := by
  induction l with
  | nil => rfl
  | cons b r ih =>
    have h2 := b.toNat_lt
    have e : UInt8.ofNat (b.toNat + 256 * leV r) = b := by
      apply UInt8.toNat_inj.1
      rw [UInt8.toNat_ofNat']
      omega
    rw [List.length_cons, leB_cons, leV, e, show (b.toNat + 256 * leV r) / 256 = leV r by omega, ih]

theorem leV_drop (l : List UInt8) (j : Nat) (h1 : 1 ≤ j) (hj : j ≤ l.length) : leV (l.drop (j - 1)) = (l[j - 1]?.getD 0).toNat + 256 * leV (l.drop j) := by
  rw [List.drop_eq_getElem_cons (by omega), leV, show j - 1 + 1 = j by omega]
  simp [show j - 1 < l.length by omega]
theorem leV_drop_lt (l : List UInt8) (j : Nat) (hl : l.length ≤ 8) (h1 : 1 ≤ j) : leV (l.drop j) < 72057594037927936 := by
  have := leV_lt (l.drop j)
  have h2 : 256 ^ (l.drop j).length ≤ 256 ^ 7 := Nat.pow_le_pow_right (by decide) (by simp; omega)
  omega

/-- The bytes of numbers, k each. -/
def putB (k : Nat) (l : List Nat) : List UInt8 := l.flatMap fun v => leB v k
theorem putB_nil (k : Nat) : putB k [] = [] := rfl
theorem putB_append (k : Nat) (a b : List Nat) : putB k (a ++ b) = putB k a ++ putB k b := by simp [putB]
theorem putB_one (k v : Nat) : putB k [v] = leB v k := by simp [putB]
theorem putB_cons (k v : Nat) (l : List Nat) : putB k (v :: l) = leB v k ++ putB k l := by simp [putB]
theorem putB_len (k : Nat) (l : List Nat) : (putB k l).length = k * l.length := by
  induction l with
  | nil => rfl
  | cons v r ih => rw [putB_cons, List.length_append, leB_len, ih, List.length_cons, Nat.mul_add]; omega

/-- The error of taking n numbers of k bytes from place a on, of m bytes. -/
def takeE (m : Nat) (a n : Int) (k : Nat) : Nat :=
  if a < 0 ∨ n < 0 then 1 else if (m : Int) < a ∨ ((m : Int) - a) / k < n then 2 else 0
/-- n numbers of k bytes, from place a on. -/
def takeL (s : List UInt8) (a k n : Nat) : List Nat := (List.range n).map fun i => leV ((s.drop (a + i * k)).take k)

theorem takeL_zero (s : List UInt8) (a k : Nat) : takeL s a k 0 = [] := rfl
theorem takeL_succ (s : List UInt8) (a k n : Nat) : takeL s a k (n + 1) = takeL s a k n ++ [leV ((s.drop (a + n * k)).take k)] := by
  simp [takeL, List.range_succ]
theorem takeL_len (s : List UInt8) (a k n : Nat) : (takeL s a k n).length = n := by simp [takeL]

theorem takeL_part (s : List UInt8) (a k n : Nat) : takeL ((s.drop a).take (n * k)) 0 k n = takeL s a k n := by
  refine List.map_congr_left fun i hi => ?_
  have hi' : i < n := by simpa using hi
  have h2 : (i + 1) * k ≤ n * k := Nat.mul_le_mul_right k hi'
  rw [Nat.add_mul, Nat.one_mul] at h2
  rw [List.drop_take, List.take_take, List.drop_drop, Nat.zero_add, Nat.min_eq_left (by omega)]

end Go.Proofs.Ytdnngacamdohiaa
