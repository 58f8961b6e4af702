/-
  Plain laws on taking what was put, to the base 128: no program in sight.
-/
import Derived.Test.YtdnngacamdohiaaVarE
namespace Go.Proofs.Ytdnngacamdohiaa

theorem b_lo (v : Nat) (h : v < 128) : (UInt8.ofNat v).toNat = v := by rw [UInt8.toNat_ofNat']; omega
theorem b_hi (v : Nat) : (UInt8.ofNat (v % 128 + 128)).toNat = v % 128 + 128 := by rw [UInt8.toNat_ofNat']; omega
theorem pow_step (v n : Nat) : v % 128 * 128 ^ n + v / 128 * 128 ^ (n + 1) = v * 128 ^ n := by
  rw [Nat.pow_succ, Nat.mul_comm (128 ^ n) 128, ← Nat.mul_assoc, ← Nat.add_mul, Nat.mod_add_div' v 128]

/-- What was put is taken, whatever stands behind. -/
theorem va_vb (z : List UInt8) (k : Nat) : ∀ n v acc, n + k = 9 → v * 128 ^ n < 18446744073709551616 → (n = 0 ∨ 0 < v) → va n acc (vb k v ++ z) = (0, acc + v * 128 ^ n, n + (vb k v).length) := by
  induction k with
  | zero =>
    intro n v acc hn hv h0
    have h9 : n = 9 := by omega
    subst h9
    have hp : (128 : Nat) ^ 9 = 9223372036854775808 := by decide
    rw [hp] at hv
    have hb := b_lo v (by omega)
    rw [vb, List.singleton_append, va_last (by rw [hb]; omega) (by rw [hb]; omega), hb]; rfl
  | succ k ih =>
    intro n v acc hn hv h0
    by_cases h : v < 128
    · have hb := b_lo v h
      rw [vb_small _ _ h, List.singleton_append, va_last (by rw [hb]; omega) (by rw [hb]; omega), hb]; rfl
    · have hb := b_hi v
      have hstep := pow_step v n
      rw [vb_more k v (by omega), List.cons_append, va_next (by rw [hb]; omega) (by rw [hb]; omega), hb, Nat.add_sub_cancel, ih (n + 1) (v / 128) _ (by omega) (by omega) (Or.inr (by omega)), Nat.add_assoc acc, hstep, List.length_cons]
      congr 2; omega
theorem va_cut (k : Nat) : ∀ n v acc j, n + k = 9 → (n = 0 ∨ 0 < v) → j < (vb k v).length → va n acc ((vb k v).take j) = (2, 0, 0) := by
  induction k with
  | zero =>
    intro n v acc j hn h0 hj
    have : j = 0 := by simp [vb] at hj; exact hj
    subst this; simp [va]
  | succ k ih =>
    intro n v acc j hn h0 hj
    by_cases h : v < 128
    · rw [vb_small _ _ h] at hj ⊢
      have : j = 0 := by simpa using hj
      subst this; simp [va]
    · have hb := b_hi v
      rw [vb_more k v (by omega)] at hj ⊢
      cases j with
      | zero => simp [va]
      | succ j => rw [List.take_succ_cons, va_next (by rw [hb]; omega) (by rw [hb]; omega)]; exact ih (n + 1) (v / 128) _ j (by omega) (Or.inr (by omega)) (by simpa using hj)

theorem tk_back (a z : List UInt8) (v : Nat) (hv : v < 18446744073709551616) : tk (a ++ vB v ++ z) (a.length : Int) = (0, v, (vB v).length) := by
  have h := va_vb z 9 0 v 0 (by omega) (by simpa using hv) (Or.inl rfl)
  rw [tk, if_neg (by omega), Int.toNat_natCast, List.append_assoc, List.drop_append_of_le_length (Nat.le_refl _), List.drop_length, List.nil_append]
  simpa [vB] using h
theorem tk_cut (a : List UInt8) (v j : Nat) (hj : j < (vB v).length) : tk (a ++ (vB v).take j) (a.length : Int) = (2, 0, 0) := by
  rw [tk, if_neg (by omega), Int.toNat_natCast, List.drop_append_of_le_length (Nat.le_refl _), List.drop_length, List.nil_append]
  exact va_cut 9 0 v 0 j (by omega) (Or.inl rfl) hj

/-- No number's bytes begin another one's. -/
theorem vB_prefix (v w : Nat) (z : List UInt8) (hv : v < 18446744073709551616) (hw : w < 18446744073709551616) (h : vB w = vB v ++ z) : v = w := by
  have h1 := va_vb z 9 0 v 0 (by omega) (by simpa using hv) (Or.inl rfl)
  have h2 := va_vb [] 9 0 w 0 (by omega) (by simpa using hw) (Or.inl rfl)
  have e : vb 9 v ++ z = vb 9 w ++ [] := by rw [List.append_nil]; exact h.symm
  rw [e, h2] at h1
  have := (Prod.mk.inj (Prod.mk.inj h1).2).1
  simpa using this.symm
theorem vb_mono (k : Nat) : ∀ v w, v ≤ w → (vb k v).length ≤ (vb k w).length := by
  induction k with
  | zero => intro v w _; simp [vb]
  | succ k ih =>
    intro v w h
    by_cases h1 : v < 128
    · rw [vb_small _ _ h1]; exact vb_pos _ _
    · rw [vb_more k v (by omega), vb_more k w (by omega), List.length_cons, List.length_cons]
      have := ih (v / 128) (w / 128) (by omega)
      omega
theorem vB_mono (v w : Nat) (h : v ≤ w) : (vB v).length ≤ (vB w).length := vb_mono 9 v w h
set_option maxRecDepth 100000 in
theorem len_pow : ∀ k < 64, (vB (2 ^ k)).length = k / 7 + 1 ∧ (0 < k → (vB (2 ^ k - 1)).length = (k + 6) / 7) := by decide +kernel

/-- A row that was put is taken, whatever stands behind. -/
theorem tr_back (z : List UInt8) (l : List Nat) : ∀ (a : List UInt8) (acc : List Nat), (∀ x ∈ l, x < 18446744073709551616) → tr (a ++ rowB l ++ z) l.length acc (a.length : Int) = (0, acc ++ l, ((a.length + (rowB l).length : Nat) : Int)) := by
  induction l with
  | nil => intro a acc _; simp [tr, rowB]
  | cons v r ih =>
    intro a acc hv
    have hb : tk (a ++ rowB (v :: r) ++ z) (a.length : Int) = (0, v, (vB v).length) := by
      have := tk_back a (rowB r ++ z) v (hv v (by simp))
      rw [rowB_cons]; simpa [List.append_assoc] using this
    rw [List.length_cons, tr, hb]
    have h2 := ih (a ++ vB v) (acc ++ [v]) (fun x hx => hv x (by simp [hx]))
    rw [if_pos rfl]
    have e : (a ++ rowB (v :: r) ++ z) = (a ++ vB v) ++ rowB r ++ z := by rw [rowB_cons]; simp [List.append_assoc]
    rw [e, show (a.length : Int) + (((0, v, (vB v).length) : Nat × Nat × Nat).2.2 : Int) = ((a ++ vB v).length : Int) by rw [List.length_append]; exact (Int.natCast_add _ _).symm]
    rw [h2, rowB_cons, List.length_append, List.length_append, List.append_assoc acc]
    simp; omega
theorem tr_more (l : List Nat) : ∀ (a : List UInt8) (acc : List Nat), (∀ x ∈ l, x < 18446744073709551616) → tr (a ++ rowB l) (l.length + 1) acc (a.length : Int) = (2, [], 0) := by
  induction l with
  | nil =>
    intro a acc _
    have : tk (a ++ rowB []) (a.length : Int) = (2, 0, 0) := by
      rw [tk, if_neg (by omega), Int.toNat_natCast, rowB_nil, List.append_nil, List.drop_length, va_nil]
    rw [List.length_nil, tr, this]; rfl
  | cons v r ih =>
    intro a acc hv
    have hb : tk (a ++ rowB (v :: r)) (a.length : Int) = (0, v, (vB v).length) := by
      have := tk_back a (rowB r) v (hv v (by simp))
      rw [rowB_cons]; simpa [List.append_assoc] using this
    rw [List.length_cons, tr, hb]
    have h2 := ih (a ++ vB v) (acc ++ [v]) (fun x hx => hv x (by simp [hx]))
    rw [if_pos rfl]
    have e : (a ++ rowB (v :: r)) = (a ++ vB v) ++ rowB r := by rw [rowB_cons]; simp [List.append_assoc]
    rw [e, show (a.length : Int) + (((0, v, (vB v).length) : Nat × Nat × Nat).2.2 : Int) = ((a ++ vB v).length : Int) by rw [List.length_append]; exact (Int.natCast_add _ _).symm]
    exact h2

/-- There is one way each. -/
theorem va_vb_of (l : List UInt8) : ∀ n acc v u, n ≤ 9 → va n acc l = (0, v, u) → ∃ d, v = acc + d * 128 ^ n ∧ vb (9 - n) d = l.take (u - n) ∧ n < u ∧ u ≤ n + l.length ∧ (n = 0 ∨ 0 < d) := by
  induction l with
  | nil => intro n acc v u _ h; simp [va] at h
  | cons b r ih =>
    intro n acc v u hn h
    have hb := b.toNat_lt
    by_cases hf : n = 9 ∧ 2 ≤ b.toNat ∨ 0 < n ∧ b.toNat = 0
    · rw [va_form hf] at h; simp at h
    · by_cases h128 : b.toNat < 128
      · rw [va_last hf h128] at h
        simp only [Prod.mk.injEq, true_and] at h
        refine ⟨b.toNat, h.1.symm, ?_, by omega, by simp only [List.length_cons]; omega, by omega⟩
        rw [vb_small _ _ h128, ← h.2, Nat.add_sub_cancel_left]
        simp
      · rw [va_next hf (by omega)] at h
        obtain ⟨d, h1, h2, h3, h4, h5⟩ := ih (n + 1) _ v u (by omega) h
        refine ⟨b.toNat - 128 + 128 * d, ?_, ?_, by omega, by simp only [List.length_cons]; omega, by omega⟩
        · rw [h1, Nat.pow_succ, Nat.add_mul, Nat.add_assoc, Nat.mul_comm (128 ^ n) 128, ← Nat.mul_assoc, Nat.mul_comm d 128]
        · rw [show 9 - n = (9 - (n + 1)) + 1 by omega, vb_more _ _ (by omega), show (b.toNat - 128 + 128 * d) % 128 = b.toNat - 128 by omega, show (b.toNat - 128 + 128 * d) / 128 = d by omega, h2, show u - n = (u - (n + 1)) + 1 by omega, List.take_succ_cons, Nat.sub_add_cancel (by omega)]
          simp
theorem tk_form {l : List UInt8} {i v u : Nat} (h : tk l (i : Int) = (0, v, u)) : (l.drop i).take u = vB v ∧ 1 ≤ u ∧ i + u ≤ l.length := by
  have hin := tk_in (l := l) (x := (i : Int)) (by rw [h])
  rw [h] at hin
  have hin2 : (i : Int) + (u : Int) ≤ l.length := hin.2.2.1
  rw [tk, if_neg (by omega), Int.toNat_natCast] at h
  obtain ⟨d, h1, h2, h3, h4, h5⟩ := va_vb_of _ 0 0 v u (by omega) h
  simp at h1
  subst h1
  exact ⟨h2.symm, by omega, by omega⟩
theorem tr_form (l : List UInt8) : ∀ m (acc L : List Nat) (i : Nat) (y : Int), i ≤ l.length → tr l m acc (i : Int) = (0, L, y) → ∃ (L' : List Nat) (j : Nat), L = acc ++ L' ∧ L'.length = m ∧ y = (j : Int) ∧ i ≤ j ∧ j ≤ l.length ∧ (l.drop i).take (j - i) = rowB L' ∧ ∀ x ∈ L', x < 18446744073709551616 := by
  intro m
  induction m with
  | zero =>
    intro acc L i y hi h
    simp only [tr, Prod.mk.injEq, true_and] at h
    exact ⟨[], i, by simp [h.1], rfl, h.2.symm, Nat.le_refl _, hi, by simp [rowB], by simp⟩
  | succ m ih =>
    intro acc L i y hi h
    rw [tr] at h
    rcases htk : tk l (i : Int) with ⟨e, v, u⟩
    rw [htk] at h
    by_cases he : e = 0
    · subst he
      rw [if_pos rfl] at h
      obtain ⟨h1, h2, h3⟩ := tk_form htk
      have hin := tk_in (l := l) (x := (i : Int)) (by rw [htk])
      rw [htk] at hin
      have h' : tr l m (acc ++ [v]) ((i + u : Nat) : Int) = (0, L, y) := by rw [Int.natCast_add]; exact h
      obtain ⟨L', j, e1, e2, e3, e4, e5, e6, e7⟩ := ih _ L (i + u) y h3 h'
      refine ⟨v :: L', j, by rw [e1]; simp, by simp [e2], e3, by omega, e5, ?_, ?_⟩
      · rw [rowB_cons, ← e6, ← h1, show j - i = u + (j - (i + u)) by omega, List.take_add, List.drop_drop]
      · intro x hx
        rcases List.mem_cons.1 hx with rfl | hx
        · exact hin.2.2.2
        · exact e7 x hx
    · rw [if_neg he] at h
      simp at h; exact absurd h.1 he
theorem tr_err (l : List UInt8) : ∀ m (acc : List Nat) (x : Int), (tr l m acc x).1 ≠ 0 → (tr l m acc x).2 = ([], 0) := by
  intro m
  induction m with
  | zero => intro acc x h; simp [tr] at h
  | succ m ih =>
    intro acc x h
    rw [tr] at h ⊢
    by_cases he : (tk l x).1 = 0
    · rw [if_pos he] at h ⊢; exact ih _ _ h
    · rw [if_neg he]
theorem va_bad (l : List UInt8) : ∀ n acc, (va n acc l).1 ≠ 0 → (va n acc l).2 = (0, 0) := by
  induction l with
  | nil => intro n acc h; simp [va]
  | cons b r ih => intro n acc h; rw [va] at h ⊢; split
                   · rfl
                   · rename_i h1
                     rw [if_neg h1] at h
                     split
                     · rename_i h2; rw [if_pos h2] at h; simp at h
                     · rename_i h2; rw [if_neg h2] at h; exact ih _ _ h
theorem tk_bad (l : List UInt8) (x : Int) (h : (tk l x).1 ≠ 0) : (tk l x).2 = (0, 0) := by
  unfold tk at h ⊢; split
  · rfl
  · rename_i h1; rw [if_neg h1] at h; exact va_bad _ _ _ h
end Go.Proofs.Ytdnngacamdohiaa
