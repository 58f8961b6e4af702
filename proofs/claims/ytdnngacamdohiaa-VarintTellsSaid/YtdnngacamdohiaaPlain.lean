/-
  Plain laws on numbers and their bytes, lowest first: no program in sight.
-/
namespace Go.Proofs.Ytdnngacamdohiaa

/-- The k lowest bytes of v, the lowest one first. -/
def leB (v : Nat) (k : Nat) : List UInt8 := (List.range k).map fun i => UInt8.ofNat (v / 256 ^ i)
/-- The number of bytes, the lowest one first. -/
def leV : List UInt8 → Nat
  | [] => 0
  | b :: r => b.toNat + 256 * leV r

theorem leB_zero (v : Nat) : leB v 0 = [] := rfl
theorem leB_succ (v k : Nat) : leB v (k + 1) = leB v k ++ [UInt8.ofNat (v / 256 ^ k)] := by
  simp [leB, List.range_succ]
theorem leB_len (v k : Nat) : (leB v k).length = k := by simp [leB]
theorem leB_cons (v k : Nat) : leB v (k + 1) = UInt8.ofNat v :: leB (v / 256) k := by
  simp only [leB, List.range_succ_eq_map, List.map_cons, List.map_map]
  congr 1
  · simp
  · refine List.map_congr_left fun i _ => ?_
    simp only [Function.comp, Nat.pow_succ, Nat.div_div_eq_div_mul, Nat.mul_comm]

theorem leV_leB (k : Nat) : ∀ v, leV (leB v k) = v % 256 ^ k := by
  induction k with
  | zero => intro v; simp [leB_zero, leV, Nat.mod_one]
  | succ k ih =>
    intro v
    rw [leB_cons, leV, ih, Nat.pow_succ, Nat.mul_comm (256 ^ k) 256, Nat.mod_mul]
    simp
theorem leV_lt (l : List UInt8) : leV l < 256 ^ l.length := by
  induction l with
  | nil => simp [leV]
  | cons b r ih =>
    have h2 := b.toNat_lt
    simp only [leV, List.length_cons, Nat.pow_succ]
    omega
theorem leB_leV (l : List UInt8) : leB (leV l) l.length = l := by
  induction l with
  | nil => rfl
  | cons b r ih =>
    have h2 := b.toNat_lt
    have e : UInt8.ofNat (b.toNat + 256 * leV r) = b := by
      apply UInt8.toNat_inj.1
      rw [UInt8.toNat_ofNat']
      omega
    rw [List.length_cons, leB_cons, leV, e, show (b.toNat + 256 * leV r) / 256 = leV r by omega, ih]

theorem leV_drop (l : List UInt8) (j : Nat) (h1 : 1 ≤ j) (hj : j ≤ l.length) : leV (l.drop (j - 1)) = (l[j - 1]?.getD 0).toNat + 256 * leV (l.drop j) := by
  rw [List.drop_eq_getElem_cons (by omega), leV, show j - 1 + 1 = j by omega]
  simp [show j - 1 < l.length by omega]
theorem leV_drop_lt (l : List UInt8) (j : Nat) (hl : l.length ≤ 8) (h1 : 1 ≤ j) : leV (l.drop j) < 72057594037927936 := by
  have := leV_lt (l.drop j)
  have h2 : 256 ^ (l.drop j).length ≤ 256 ^ 7 := Nat.pow_le_pow_right (by decide) (by simp; omega)
  omega

/-- The bytes of numbers, k each. -/
def putB (k : Nat) (l : List Nat) : List UInt8 := l.flatMap fun v => leB v k
theorem putB_nil (k : Nat) : putB k [] = [] := rfl
theorem putB_append (k : Nat) (a b : List Nat) : putB k (a ++ b) = putB k a ++ putB k b := by simp [putB]
theorem putB_one (k v : Nat) : putB k [v] = leB v k := by simp [putB]
theorem putB_cons (k v : Nat) (l : List Nat) : putB k (v :: l) = leB v k ++ putB k l := by simp [putB]
theorem putB_len (k : Nat) (l : List Nat) : (putB k l).length = k * l.length := by
  induction l with
  | nil => rfl
  | cons v r ih => rw [putB_cons, List.length_append, leB_len, ih, List.length_cons, Nat.mul_add]; omega

/-- The error of taking n numbers of k bytes from place a on, of m bytes. -/
def takeE (m : Nat) (a n : Int) (k : Nat) : Nat :=
  if a < 0 ∨ n < 0 then 1 else if (m : Int) < a ∨ ((m : Int) - a) / k < n then 2 else 0
/-- n numbers of k bytes, from place a on. -/
def takeL (s : List UInt8) (a k n : Nat) : List Nat := (List.range n).map fun i => leV ((s.drop (a + i * k)).take k)

theorem takeL_zero (s : List UInt8) (a k : Nat) : takeL s a k 0 = [] := rfl
theorem takeL_succ (s : List UInt8) (a k n : Nat) : takeL s a k (n + 1) = takeL s a k n ++ [leV ((s.drop (a + n * k)).take k)] := by
  simp [takeL, List.range_succ]
theorem takeL_len (s : List UInt8) (a k n : Nat) : (takeL s a k n).length = n := by simp [takeL]

theorem takeL_part (s : List UInt8) (a k n : Nat) : takeL ((s.drop a).take (n * k)) 0 k n = takeL s a k n := by
  refine List.map_congr_left fun i hi => ?_
  have hi' : i < n := by simpa using hi
  have h2 : (i + 1) * k ≤ n * k := Nat.mul_le_mul_right k hi'
  rw [Nat.add_mul, Nat.one_mul] at h2
  rw [List.drop_take, List.take_take, List.drop_drop, Nat.zero_add, Nat.min_eq_left (by omega)]

theorem putB_take_drop (K : Nat) (l : List Nat) (k : Nat) : putB K (l.take k) ++ putB K (l.drop k) = putB K l := by rw [← putB_append, List.take_append_drop]
theorem drop_putB (K : Nat) : ∀ (l : List Nat) (i : Nat), (putB K l).drop (K * i) = putB K (l.drop i) := by
  intro l
  induction l with
  | nil => intro i; simp [putB]
  | cons v r ih =>
    intro i
    cases i with
    | zero => simp
    | succ i =>
      rw [putB_cons, List.drop_append, List.drop_of_length_le (by rw [leB_len, Nat.mul_add]; omega), leB_len, List.nil_append, show K * (i + 1) - K = K * i by rw [Nat.mul_add]; omega, ih, List.drop_succ_cons]
theorem take_putB (K v : Nat) (l : List Nat) (t : List UInt8) : (putB K (v :: l) ++ t).take K = leB v K := by
  rw [putB_cons, List.append_assoc, List.take_append_of_le_length (by rw [leB_len]; exact Nat.le_refl _), List.take_of_length_le (by rw [leB_len]; exact Nat.le_refl _)]
/-- What was put is taken, wherever it stands. -/
theorem takeL_putB (K : Nat) (pre post : List UInt8) (l : List Nat) : takeL (pre ++ putB K l ++ post) pre.length K l.length = l.map (· % 256 ^ K) := by
  apply List.ext_getElem
  · simp [takeL_len]
  · intro i h1 h2
    have hi : i < l.length := by simpa [takeL_len] using h1
    simp only [takeL, List.getElem_map, List.getElem_range]
    rw [List.append_assoc, List.drop_append, List.drop_of_length_le (by omega), List.nil_append, Nat.add_sub_cancel_left, List.drop_append_of_le_length (by rw [putB_len, Nat.mul_comm]; exact Nat.mul_le_mul_left K (by omega)),
      Nat.mul_comm i K, drop_putB, List.drop_eq_getElem_cons hi, take_putB, leV_leB]
theorem map_mod (K : Nat) (l : List Nat) (h : ∀ x ∈ l, x < 256 ^ K) : l.map (· % 256 ^ K) = l := by
  conv => rhs; rw [← List.map_id l]
  exact List.map_congr_left fun x hx => Nat.mod_eq_of_lt (h x hx)
theorem takeL_putB_one (K : Nat) (l : List Nat) (i : Nat) (hi : i < l.length) : takeL (putB K l) (K * i) K 1 = [l[i]?.getD 0 % 256 ^ K] := by
  have h := drop_putB K l i
  rw [List.drop_eq_getElem_cons hi] at h
  have h2 := take_putB K l[i] (l.drop (i + 1)) []
  rw [List.append_nil] at h2
  simp only [takeL, List.range_one, List.map_cons, List.map_nil, Nat.zero_mul, Nat.add_zero, h, h2, leV_leB, List.getElem?_eq_getElem hi, Option.getD_some]

/-- What was taken, put, is the bytes that were read. -/
theorem putB_takeL (s : List UInt8) (K : Nat) : ∀ (k i : Nat), i + K * k ≤ s.length → putB K (takeL s i K k) = (s.drop i).take (K * k) := by
  intro k
  induction k with
  | zero => intro i _; simp [takeL_zero, putB_nil]
  | succ k ih =>
    intro i h
    have h1 : K * (k + 1) = K * k + K := by rw [Nat.mul_add, Nat.mul_one]
    have hl : ((s.drop (i + k * K)).take K).length = K := by rw [List.length_take, List.length_drop, Nat.mul_comm k K]; omega
    rw [takeL_succ, putB_append, putB_one, ih i (by omega)]
    have e := leB_leV ((s.drop (i + k * K)).take K)
    rw [hl] at e
    rw [e, h1, List.take_add, List.drop_drop, Nat.mul_comm k K]
theorem leB_half (s : List UInt8) (i : Nat) (h : i + 4 ≤ s.length) : leB (leV ((s.drop i).take 4)) 4 = (s.drop i).take 4 := by
  have e := leB_leV ((s.drop i).take 4)
  rwa [show ((s.drop i).take 4).length = 4 by rw [List.length_take, List.length_drop]; omega] at e

end Go.Proofs.Ytdnngacamdohiaa
