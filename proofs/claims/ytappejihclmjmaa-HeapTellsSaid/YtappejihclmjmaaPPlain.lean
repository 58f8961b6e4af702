/-
  Layouts in plain words: which are right, where their parts stand, addresses and places. Plain laws, no condition.
-/
import Derived.Test.YtappejihclmjmaaRows
namespace Go.Proofs.Ytappejihclmjmaa

/-- A layout, number by number. -/
structure Lay where
  base : Int
  cap : Int
  to : Int
  low : Int
  high : Int
  old : Int
  far : Int

/-- Each number fits its type. -/
def Lay.Wf (l : Lay) : Prop :=
  (0 ≤ l.base ∧ l.base < 18446744073709551616) ∧ (-9223372036854775808 ≤ l.cap ∧ l.cap ≤ 9223372036854775807) ∧ (-9223372036854775808 ≤ l.to ∧ l.to ≤ 9223372036854775807) ∧
  (-9223372036854775808 ≤ l.low ∧ l.low ≤ 9223372036854775807) ∧ (-9223372036854775808 ≤ l.high ∧ l.high ≤ 9223372036854775807) ∧ (-9223372036854775808 ≤ l.old ∧ l.old ≤ 9223372036854775807) ∧ (-9223372036854775808 ≤ l.far ∧ l.far ≤ 9223372036854775807)

def Lay.Ok (l : Lay) : Prop :=
  1 ≤ l.base ∧ 0 ≤ l.cap ∧ l.cap ≤ 4096 ∧ l.base + 2 * l.cap ≤ 9223372036854775808 ∧ (l.to = 0 ∨ l.to = 1) ∧ 0 ≤ l.low ∧ 0 ≤ l.high ∧ l.low + l.high ≤ l.cap ∧ 0 ≤ l.old ∧ 0 ≤ l.far ∧ l.old + l.far ≤ l.cap

instance (l : Lay) : Decidable l.Ok := by unfold Lay.Ok; infer_instance

/-- The first address of a part, less Base. -/
def Lay.off (l : Lay) (p : Nat) : Int :=
  match p with
  | 1 => if l.to = 1 then l.cap else 0
  | 2 => (if l.to = 1 then l.cap else 0) + (l.cap - l.high)
  | 3 => if l.to = 1 then 0 else l.cap
  | _ => (if l.to = 1 then 0 else l.cap) + (l.cap - l.far)
/-- How many words a part has. -/
def Lay.size (l : Lay) (p : Nat) : Int :=
  match p with
  | 1 => l.low
  | 2 => l.high
  | 3 => l.old
  | _ => l.far

/-- An address is a part's. -/
def Lay.has (l : Lay) (p : Nat) (y : Int) : Prop := l.base + l.off p ≤ y ∧ y < l.base + l.off p + l.size p
instance (l : Lay) (p : Nat) (y : Int) : Decidable (l.has p y) := by unfold Lay.has; infer_instance

/-- Address: the address, and the error's number. -/
def adrA (l : Lay) (p i : Int) : Int := if l.Ok ∧ 1 ≤ p ∧ p ≤ 4 ∧ 0 ≤ i ∧ i < l.size p.toNat then l.base + l.off p.toNat + i else 0
def adrE (l : Lay) (p i : Int) : Int := if l.Ok then if 1 ≤ p ∧ p ≤ 4 ∧ 0 ≤ i ∧ i < l.size p.toNat then 0 else 6 else 1

/-- Find: the part (0: none has it). -/
def fndK (l : Lay) (y : Int) : Nat := if l.has 1 y then 1 else if l.has 2 y then 2 else if l.has 3 y then 3 else if l.has 4 y then 4 else 0
def fndP (l : Lay) (y : Int) : Int := if l.Ok then (fndK l y : Int) else 0
def fndI (l : Lay) (y : Int) : Int := if l.Ok then (if fndK l y = 0 then 0 else y - (l.base + l.off (fndK l y))) else 0
def fndE (l : Lay) (y : Int) : Int := if l.Ok then (if fndK l y = 0 then 6 else 0) else 1

def flipL (l : Lay) : Lay := if l.Ok then ⟨l.base, l.cap, 1 - l.to, 0, 0, l.low, l.high⟩ else ⟨0, 0, 0, 0, 0, 0, 0⟩
def okE (l : Lay) : Int := if l.Ok then 0 else 1
def roomL (l : Lay) : Int := if l.Ok then l.cap - l.low - l.high else 0

theorem fndK_le (l : Lay) (y : Int) : fndK l y ≤ 4 := by unfold fndK; (repeat' split) <;> omega

/-- Parts lie apart, and within both spaces. -/
theorem off_in (l : Lay) (h : l.Ok) (p : Nat) (hp : 1 ≤ p) (hp4 : p ≤ 4) : 0 ≤ l.off p ∧ 0 ≤ l.size p ∧ l.off p + l.size p ≤ 2 * l.cap ∧ l.off p ≤ 8192 ∧ l.size p ≤ 4096 := by
  unfold Lay.Ok at h
  match p, hp, hp4 with
  | 1, _, _ => simp only [Lay.off, Lay.size]; split <;> omega
  | 2, _, _ => simp only [Lay.off, Lay.size]; split <;> omega
  | 3, _, _ => simp only [Lay.off, Lay.size]; split <;> omega
  | 4, _, _ => simp only [Lay.off, Lay.size]; split <;> omega

theorem has_one (l : Lay) (h : l.Ok) (p q : Nat) (hp : 1 ≤ p) (hp4 : p ≤ 4) (hq : 1 ≤ q) (hq4 : q ≤ 4) (y : Int) (h1 : l.has p y) (h2 : l.has q y) : p = q := by
  unfold Lay.Ok at h
  unfold Lay.has at h1 h2
  match p, hp, hp4 with
  | 1, _, _ => match q, hq, hq4 with
    | 1, _, _ => rfl
    | 2, _, _ => simp only [Lay.off, Lay.size] at h1 h2; exfalso; split at h1 <;> simp_all <;> omega
    | 3, _, _ => simp only [Lay.off, Lay.size] at h1 h2; exfalso; split at h1 <;> simp_all <;> omega
    | 4, _, _ => simp only [Lay.off, Lay.size] at h1 h2; exfalso; split at h1 <;> simp_all <;> omega
  | 2, _, _ => match q, hq, hq4 with
    | 1, _, _ => simp only [Lay.off, Lay.size] at h1 h2; exfalso; split at h1 <;> simp_all <;> omega
    | 2, _, _ => rfl
    | 3, _, _ => simp only [Lay.off, Lay.size] at h1 h2; exfalso; split at h1 <;> simp_all <;> omega
    | 4, _, _ => simp only [Lay.off, Lay.size] at h1 h2; exfalso; split at h1 <;> simp_all <;> omega
  | 3, _, _ => match q, hq, hq4 with
    | 1, _, _ => simp only [Lay.off, Lay.size] at h1 h2; exfalso; split at h1 <;> simp_all <;> omega
    | 2, _, _ => simp only [Lay.off, Lay.size] at h1 h2; exfalso; split at h1 <;> simp_all <;> omega
    | 3, _, _ => rfl
    | 4, _, _ => simp only [Lay.off, Lay.size] at h1 h2; exfalso; split at h1 <;> simp_all <;> omega
  | 4, _, _ => match q, hq, hq4 with
    | 1, _, _ => simp only [Lay.off, Lay.size] at h1 h2; exfalso; split at h1 <;> simp_all <;> omega
    | 2, _, _ => simp only [Lay.off, Lay.size] at h1 h2; exfalso; split at h1 <;> simp_all <;> omega
    | 3, _, _ => simp only [Lay.off, Lay.size] at h1 h2; exfalso; split at h1 <;> simp_all <;> omega
    | 4, _, _ => rfl

theorem fndK_has (l : Lay) (y : Int) (h : fndK l y ≠ 0) : l.has (fndK l y) y := by
  unfold fndK at h ⊢
  split
  · assumption
  · split
    · assumption
    · split
      · assumption
      · split
        · assumption
        · simp_all
theorem fndK_of (l : Lay) (h : l.Ok) (p : Nat) (hp : 1 ≤ p) (hp4 : p ≤ 4) (y : Int) (hy : l.has p y) : fndK l y = p := by
  have hne : fndK l y ≠ 0 := by
    unfold fndK
    match p, hp, hp4 with
    | 1, _, _ => simp [hy]
    | 2, _, _ => (repeat' split) <;> simp_all
    | 3, _, _ => (repeat' split) <;> simp_all
    | 4, _, _ => (repeat' split) <;> simp_all
  exact has_one l h _ _ (by omega) (fndK_le l y) hp hp4 y (fndK_has l y hne) hy

/-- Find undoes Address. -/
theorem find_adr (l : Lay) (h : l.Ok) (p i : Int) (hp : 1 ≤ p) (hp4 : p ≤ 4) (h0 : 0 ≤ i) (hi : i < l.size p.toNat) :
    fndP l (l.base + l.off p.toNat + i) = p ∧ fndI l (l.base + l.off p.toNat + i) = i ∧ fndE l (l.base + l.off p.toNat + i) = 0 := by
  have hk := fndK_of l h p.toNat (by omega) (by omega) (l.base + l.off p.toNat + i) (by unfold Lay.has; omega)
  unfold fndP fndI fndE
  rw [if_pos h, if_pos h, if_pos h, hk, if_neg (by omega), if_neg (by omega)]
  omega
/-- Address undoes Find. -/
theorem adr_find (l : Lay) (h : l.Ok) (y : Int) (hk : fndK l y ≠ 0) : adrE l (fndP l y) (fndI l y) = 0 ∧ adrA l (fndP l y) (fndI l y) = y := by
  have h1 := fndK_has l y hk
  have h2 := fndK_le l y
  have e1 : fndP l y = (fndK l y : Int) := by rw [fndP, if_pos h]
  have e2 : fndI l y = y - (l.base + l.off (fndK l y)) := by rw [fndI, if_pos h, if_neg hk]
  unfold Lay.has at h1
  have hc : 1 ≤ (fndK l y : Int) ∧ (fndK l y : Int) ≤ 4 ∧ 0 ≤ y - (l.base + l.off (fndK l y)) ∧ y - (l.base + l.off (fndK l y)) < l.size (fndK l y : Int).toNat := by
    rw [Int.toNat_natCast]; omega
  rw [e1, e2, adrE, adrA, if_pos h, if_pos hc, if_pos ⟨h, hc⟩, Int.toNat_natCast]
  omega

/-- How many of the first i addresses are a part's. -/
def cl (l : Lay) (p : Nat) (i : Int) : Int := max 0 (min (i - l.off p) (l.size p))
def cnt (l : Lay) (i : Int) : Int := cl l 1 i + cl l 2 i + cl l 3 i + cl l 4 i
theorem cnt_zero (l : Lay) (h : l.Ok) : cnt l 0 = 0 := by
  have h1 := off_in l h 1 (by omega) (by omega)
  have h2 := off_in l h 2 (by omega) (by omega)
  have h3 := off_in l h 3 (by omega) (by omega)
  have h4 := off_in l h 4 (by omega) (by omega)
  unfold cnt cl; omega
theorem cnt_all (l : Lay) (h : l.Ok) : cnt l (2 * l.cap) = l.low + l.high + l.old + l.far := by
  have h1 := off_in l h 1 (by omega) (by omega)
  have h2 := off_in l h 2 (by omega) (by omega)
  have h3 := off_in l h 3 (by omega) (by omega)
  have h4 := off_in l h 4 (by omega) (by omega)
  show _ = l.size 1 + l.size 2 + l.size 3 + l.size 4
  unfold cnt cl; omega
theorem cl_step (l : Lay) (h : l.Ok) (p : Nat) (hp : 1 ≤ p) (hp4 : p ≤ 4) (i : Int) (hi : 0 ≤ i) : cl l p (i + 1) = cl l p i + if l.has p (l.base + i) then 1 else 0 := by
  have h1 := off_in l h p hp hp4
  by_cases hh : l.has p (l.base + i)
  · rw [if_pos hh]; unfold Lay.has at hh; unfold cl; omega
  · rw [if_neg hh]; unfold Lay.has at hh; unfold cl; omega
theorem cnt_step (l : Lay) (h : l.Ok) (i : Int) (hi : 0 ≤ i) : cnt l (i + 1) = cnt l i + if fndK l (l.base + i) = 0 then 0 else 1 := by
  unfold cnt
  rw [cl_step l h 1 (by omega) (by omega) i hi, cl_step l h 2 (by omega) (by omega) i hi, cl_step l h 3 (by omega) (by omega) i hi, cl_step l h 4 (by omega) (by omega) i hi]
  have key : ∀ p q, 1 ≤ p → p ≤ 4 → 1 ≤ q → q ≤ 4 → l.has p (l.base + i) → p ≠ q → ¬ l.has q (l.base + i) := fun p q a b c d e f g => f (has_one l h p q a b c d _ e g)
  by_cases a1 : l.has 1 (l.base + i)
  · have a2 := key 1 2 (by omega) (by omega) (by omega) (by omega) a1 (by omega)
    have a3 := key 1 3 (by omega) (by omega) (by omega) (by omega) a1 (by omega)
    have a4 := key 1 4 (by omega) (by omega) (by omega) (by omega) a1 (by omega)
    have e : fndK l (l.base + i) = 1 := by simp [fndK, a1]
    rw [if_pos a1, if_neg a2, if_neg a3, if_neg a4, if_neg (by omega)]; omega
  · by_cases a2 : l.has 2 (l.base + i)
    · have a3 := key 2 3 (by omega) (by omega) (by omega) (by omega) a2 (by omega)
      have a4 := key 2 4 (by omega) (by omega) (by omega) (by omega) a2 (by omega)
      have e : fndK l (l.base + i) = 2 := by simp [fndK, a1, a2]
      rw [if_neg a1, if_pos a2, if_neg a3, if_neg a4, if_neg (by omega)]; omega
    · by_cases a3 : l.has 3 (l.base + i)
      · have a4 := key 3 4 (by omega) (by omega) (by omega) (by omega) a3 (by omega)
        have e : fndK l (l.base + i) = 3 := by simp [fndK, a1, a2, a3]
        rw [if_neg a1, if_neg a2, if_pos a3, if_neg a4, if_neg (by omega)]; omega
      · by_cases a4 : l.has 4 (l.base + i)
        · have e : fndK l (l.base + i) = 4 := by simp [fndK, a1, a2, a3, a4]
          rw [if_neg a1, if_neg a2, if_neg a3, if_pos a4, if_neg (by omega)]; omega
        · have e : fndK l (l.base + i) = 0 := by simp [fndK, a1, a2, a3, a4]
          rw [if_neg a1, if_neg a2, if_neg a3, if_neg a4, if_pos e]; omega
theorem cnt_bound (l : Lay) (h : l.Ok) (i : Int) (hi : 0 ≤ i) : 0 ≤ cnt l i ∧ cnt l i ≤ i ∧ cnt l i ≤ 8192 := by
  have h1 := off_in l h 1 (by omega) (by omega)
  have h2 := off_in l h 2 (by omega) (by omega)
  have h3 := off_in l h 3 (by omega) (by omega)
  have h4 := off_in l h 4 (by omega) (by omega)
  have e : l.size 1 + l.size 2 + l.size 3 + l.size 4 ≤ 8192 := by
    show l.low + l.high + l.old + l.far ≤ 8192
    unfold Lay.Ok at h; omega
  refine ⟨by unfold cnt cl; omega, ?_, by unfold cnt cl; omega⟩
  suffices hs : ∀ n : Nat, cnt l (n : Int) ≤ (n : Int) by
    have := hs i.toNat
    rwa [Int.toNat_of_nonneg hi] at this
  intro n
  induction n with
  | zero => rw [show ((0 : Nat) : Int) = 0 from rfl, cnt_zero l h]; omega
  | succ n ih =>
    rw [Int.natCast_succ, cnt_step l h _ (by omega)]
    split <;> omega
/-- No address ahead of Base, and none from Base and twice Cap on, is a part's. -/
theorem fndK_out (l : Lay) (h : l.Ok) (y : Int) (hy : y < l.base ∨ l.base + 2 * l.cap ≤ y) : fndK l y = 0 := by
  by_cases hk : fndK l y = 0
  · exact hk
  · have h1 := fndK_has l y hk
    have h2 := off_in l h (fndK l y) (by omega) (fndK_le l y)
    unfold Lay.has at h1
    omega
end Go.Proofs.Ytappejihclmjmaa
