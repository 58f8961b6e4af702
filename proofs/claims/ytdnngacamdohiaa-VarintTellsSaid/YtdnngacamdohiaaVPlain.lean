/-
  Plain laws on digits to the base 128, the lowest one first: no program in sight.
-/
namespace Go.Proofs.Ytdnngacamdohiaa

/-- The digits of v, at most k + 1 of them, the lowest one first; 128 more, if another one is behind it. -/
def vb : Nat → Nat → List UInt8
  | 0, v => [UInt8.ofNat v]
  | k + 1, v => if v < 128 then [UInt8.ofNat v] else UInt8.ofNat (v % 128 + 128) :: vb k (v / 128)
/-- A number's bytes. -/
def vB (v : Nat) : List UInt8 := vb 9 v
/-- Those of a row of numbers. -/
def rowB (l : List Nat) : List UInt8 := l.flatMap vB

theorem vb_small (k v : Nat) (h : v < 128) : vb k v = [UInt8.ofNat v] := by cases k <;> simp [vb, h]
theorem vb_more (k v : Nat) (h : 128 ≤ v) : vb (k + 1) v = UInt8.ofNat (v % 128 + 128) :: vb k (v / 128) := by rw [vb, if_neg (by omega)]
theorem vb_len (k : Nat) : ∀ v, (vb k v).length ≤ k + 1 := by
  induction k with
  | zero => intro v; simp [vb]
  | succ k ih => intro v; rw [vb]; split
                 · simp
                 · have := ih (v / 128); simp only [List.length_cons]; omega
theorem vb_pos (k v : Nat) : 1 ≤ (vb k v).length := by cases k <;> simp [vb]; split <;> simp
theorem vB_len (v : Nat) : (vB v).length ≤ 10 := vb_len 9 v
theorem vB_pos (v : Nat) : 1 ≤ (vB v).length := vb_pos 9 v
/-- How many digits are kept ahead does not matter, if they are enough. -/
theorem vb_fuel (k : Nat) : ∀ v, v < 128 ^ (k + 1) → vb (k + 1) v = vb k v := by
  induction k with
  | zero => intro v h; rw [vb_small _ _ (by simpa using h), vb_small _ _ (by simpa using h)]
  | succ k ih =>
    intro v h
    by_cases h1 : v < 128
    · rw [vb_small _ _ h1, vb_small _ _ h1]
    · rw [vb_more (k + 1) v (by omega), ih (v / 128) (Nat.div_lt_of_lt_mul (by rw [Nat.mul_comm, ← Nat.pow_succ]; exact h)), ← vb_more k v (by omega)]
theorem rowB_nil : rowB [] = [] := rfl
theorem rowB_append (a b : List Nat) : rowB (a ++ b) = rowB a ++ rowB b := by simp [rowB]
theorem rowB_one (v : Nat) : rowB [v] = vB v := by simp [rowB]
theorem rowB_cons (v : Nat) (l : List Nat) : rowB (v :: l) = vB v ++ rowB l := by simp [rowB]
theorem rowB_len (l : List Nat) : (rowB l).length ≤ 10 * l.length := by
  induction l with
  | nil => simp [rowB]
  | cons v r ih => rw [rowB_cons, List.length_append, List.length_cons]; have := vB_len v; omega
theorem rowB_succ (l : List Nat) (j : Nat) (h : j < l.length) : rowB (l.take (j + 1)) = rowB (l.take j) ++ vB (l[j]?.getD 0) := by
  rw [List.take_succ_eq_append_getElem h, rowB_append, rowB_one, List.getElem?_eq_getElem h, Option.getD_some]

/-- What is taken: the error, the value, how many bytes; n bytes were read, of the value acc. -/
def va : Nat → Nat → List UInt8 → Nat × Nat × Nat
  | _, _, [] => (2, 0, 0)
  | n, acc, b :: r =>
    if n = 9 ∧ 2 ≤ b.toNat ∨ 0 < n ∧ b.toNat = 0 then (3, 0, 0)
    else if b.toNat < 128 then (0, acc + b.toNat * 128 ^ n, n + 1)
    else va (n + 1) (acc + (b.toNat - 128) * 128 ^ n) r

theorem va_nil (n acc : Nat) : va n acc [] = (2, 0, 0) := rfl
theorem va_form {n acc : Nat} {b : UInt8} {r : List UInt8} (h : n = 9 ∧ 2 ≤ b.toNat ∨ 0 < n ∧ b.toNat = 0) : va n acc (b :: r) = (3, 0, 0) := by rw [va, if_pos h]
theorem va_last {n acc : Nat} {b : UInt8} {r : List UInt8} (h : ¬ (n = 9 ∧ 2 ≤ b.toNat ∨ 0 < n ∧ b.toNat = 0)) (hb : b.toNat < 128) : va n acc (b :: r) = (0, acc + b.toNat * 128 ^ n, n + 1) := by rw [va, if_neg h, if_pos hb]
theorem va_next {n acc : Nat} {b : UInt8} {r : List UInt8} (h : ¬ (n = 9 ∧ 2 ≤ b.toNat ∨ 0 < n ∧ b.toNat = 0)) (hb : 128 ≤ b.toNat) : va n acc (b :: r) = va (n + 1) (acc + (b.toNat - 128) * 128 ^ n) r := by rw [va, if_neg h, if_neg (by omega)]

end Go.Proofs.Ytdnngacamdohiaa
