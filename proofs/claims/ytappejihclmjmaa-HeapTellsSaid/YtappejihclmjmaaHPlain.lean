/-
  Heaps in plain words: their parts, layouts, words that are read and written. Plain laws, no condition.
-/
import Derived.Test.YtappejihclmjmaaPPlain
namespace Go.Proofs.Ytappejihclmjmaa

/-- A heap: its numbers, and the words of its parts and roots. -/
structure Hp where
  base : Int
  cap : Int
  to : Int
  cyc : Bool
  scan : Int
  low : List Nat
  high : List Nat
  old : List Nat
  far : List Nat
  roots : List Nat

def Hp.part (h : Hp) (p : Nat) : List Nat :=
  match p with
  | 1 => h.low
  | 2 => h.high
  | 3 => h.old
  | _ => h.far
def Hp.lay (h : Hp) : Lay := ⟨h.base, h.cap, h.to, (h.low.length : Int), (h.high.length : Int), (h.old.length : Int), (h.far.length : Int)⟩
theorem lay_size (h : Hp) (p : Nat) : h.lay.size p = ((h.part p).length : Int) := by
  match p with
  | 0 => rfl
  | 1 => rfl
  | 2 => rfl
  | 3 => rfl
  | _ + 4 => rfl

/-- The word at an address; 0: none. -/
def rdW (h : Hp) (y : Int) : Nat := if h.lay.Ok ∧ fndK h.lay y ≠ 0 then ((h.part (fndK h.lay y))[(fndI h.lay y).toNat]?).getD 0 else 0

def Hp.with (h : Hp) (p : Nat) (l : List Nat) : Hp :=
  match p with
  | 1 => { h with low := l }
  | 2 => { h with high := l }
  | 3 => { h with old := l }
  | _ => { h with far := l }
/-- The heap with another word at an address. -/
def wrH (h : Hp) (y : Int) (x : Nat) : Hp := h.with (fndK h.lay y) ((h.part (fndK h.lay y)).set (fndI h.lay y).toNat x)

theorem with_part (h : Hp) (p : Nat) (l : List Nat) (hp : 1 ≤ p) (hp4 : p ≤ 4) (q : Nat) (hq : 1 ≤ q) (hq4 : q ≤ 4) : (h.with p l).part q = if q = p then l else h.part q := by
  obtain rfl | rfl | rfl | rfl : p = 1 ∨ p = 2 ∨ p = 3 ∨ p = 4 := by omega
  all_goals
    obtain rfl | rfl | rfl | rfl : q = 1 ∨ q = 2 ∨ q = 3 ∨ q = 4 := by omega
    all_goals rfl
theorem with_lay (h : Hp) (p : Nat) (l : List Nat) (hl : l.length = (h.part p).length) (hp : 1 ≤ p) (hp4 : p ≤ 4) : (h.with p l).lay = h.lay := by
  obtain rfl | rfl | rfl | rfl : p = 1 ∨ p = 2 ∨ p = 3 ∨ p = 4 := by omega
  all_goals
    simp only [Hp.part] at hl
    simp only [Hp.with, Hp.lay, hl]
theorem wr_lay (h : Hp) (y : Int) (x : Nat) (hk : fndK h.lay y ≠ 0) : (wrH h y x).lay = h.lay :=
  with_lay h _ _ (by rw [List.length_set]) (by omega) (fndK_le _ _)

theorem fndI_lt (h : Hp) (y : Int) (hok : h.lay.Ok) (hk : fndK h.lay y ≠ 0) : 0 ≤ fndI h.lay y ∧ (fndI h.lay y).toNat < (h.part (fndK h.lay y)).length := by
  have h1 := fndK_has h.lay y hk
  have h2 := lay_size h (fndK h.lay y)
  unfold Lay.has at h1
  rw [fndI, if_pos hok, if_neg hk]
  omega
/-- What was written is read. -/
theorem rd_wr (h : Hp) (y : Int) (x : Nat) (hok : h.lay.Ok) (hk : fndK h.lay y ≠ 0) : rdW (wrH h y x) y = x := by
  have hl := wr_lay h y x hk
  have hlt := fndI_lt h y hok hk
  rw [rdW, hl, if_pos ⟨hok, hk⟩, wrH, with_part h _ _ (by omega) (fndK_le _ _) _ (by omega) (fndK_le _ _), if_pos rfl, List.getElem?_set_self (by omega)]
  rfl
/-- All other words are as they were. -/
theorem rd_wr_ne (h : Hp) (y z : Int) (x : Nat) (hok : h.lay.Ok) (hk : fndK h.lay y ≠ 0) (hne : z ≠ y) : rdW (wrH h y x) z = rdW h z := by
  have hl := wr_lay h y x hk
  rw [rdW, rdW, hl]
  by_cases hz : h.lay.Ok ∧ fndK h.lay z ≠ 0
  · rw [if_pos hz, if_pos hz, wrH, with_part h _ _ (by omega) (fndK_le _ _) _ (by omega) (fndK_le _ _)]
    by_cases e : fndK h.lay z = fndK h.lay y
    · rw [if_pos e, e, List.getElem?_set_ne]
      intro hi
      have h1 := fndI_lt h y hok hk
      have h2 := fndI_lt h z hok hz.2
      apply hne
      have e1 : fndI h.lay y = y - (h.lay.base + h.lay.off (fndK h.lay y)) := by rw [fndI, if_pos hok, if_neg hk]
      have e2 : fndI h.lay z = z - (h.lay.base + h.lay.off (fndK h.lay z)) := by rw [fndI, if_pos hok, if_neg hz.2]
      rw [e] at e2
      omega
    · rw [if_neg e]
  · rw [if_neg hz, if_neg hz]
/-- Written back it is the same heap. -/
theorem wr_back (h : Hp) (y : Int) (x : Nat) (hok : h.lay.Ok) (hk : fndK h.lay y ≠ 0) : wrH (wrH h y x) y (rdW h y) = h := by
  have hl := wr_lay h y x hk
  have hlt := fndI_lt h y hok hk
  have hkb := fndK_le h.lay y
  rw [wrH, hl, rdW, if_pos ⟨hok, hk⟩]
  rw [wrH, with_part h _ _ (by omega) hkb _ (by omega) hkb, if_pos rfl, List.set_set]
  have e : (h.part (fndK h.lay y)).set (fndI h.lay y).toNat (((h.part (fndK h.lay y))[(fndI h.lay y).toNat]?).getD 0) = h.part (fndK h.lay y) := by
    rw [List.getElem?_eq_getElem hlt.2, Option.getD_some, List.set_getElem_self]
  rw [e]
  generalize fndK h.lay y = k at *
  obtain rfl | rfl | rfl | rfl : k = 1 ∨ k = 2 ∨ k = 3 ∨ k = 4 := by omega
  all_goals rfl
/-- Two words at two addresses, in whatever order. -/
theorem wr_comm (h : Hp) (y z : Int) (a b : Nat) (hok : h.lay.Ok) (hy : fndK h.lay y ≠ 0) (hz : fndK h.lay z ≠ 0) (hne : y ≠ z) : wrH (wrH h y a) z b = wrH (wrH h z b) y a := by
  have hly := wr_lay h y a hy
  have hlz := wr_lay h z b hz
  have ky := fndK_le h.lay y
  have kz := fndK_le h.lay z
  rw [wrH, hly]
  conv => rhs; rw [wrH, hlz]
  rw [wrH, wrH, with_part h _ _ (by omega) ky _ (by omega) kz, with_part h _ _ (by omega) kz _ (by omega) ky]
  by_cases e : fndK h.lay z = fndK h.lay y
  · have e1 : fndI h.lay y = y - (h.lay.base + h.lay.off (fndK h.lay y)) := by rw [fndI, if_pos hok, if_neg hy]
    have e2 : fndI h.lay z = z - (h.lay.base + h.lay.off (fndK h.lay z)) := by rw [fndI, if_pos hok, if_neg hz]
    have h1 := fndI_lt h y hok hy
    have h2 := fndI_lt h z hok hz
    rw [e] at e2
    rw [if_pos e, if_pos e.symm, e, List.set_comm _ _ (by omega)]
    generalize fndK h.lay y = k at *
    obtain rfl | rfl | rfl | rfl : k = 1 ∨ k = 2 ∨ k = 3 ∨ k = 4 := by omega
    all_goals rfl
  · rw [if_neg e, if_neg (Ne.symm e)]
    generalize fndI h.lay y = iy at *
    generalize fndI h.lay z = iz at *
    generalize fndK h.lay y = k at *
    generalize fndK h.lay z = m at *
    obtain rfl | rfl | rfl | rfl : k = 1 ∨ k = 2 ∨ k = 3 ∨ k = 4 := by omega
    all_goals
      obtain rfl | rfl | rfl | rfl : m = 1 ∨ m = 2 ∨ m = 3 ∨ m = 4 := by omega
      all_goals first | rfl | exact absurd rfl e
/-- At one address the last one is there. -/
theorem wr_twice (h : Hp) (y : Int) (a b : Nat) (hk : fndK h.lay y ≠ 0) : wrH (wrH h y a) y b = wrH h y b := by
  have hl := wr_lay h y a hk
  have ky := fndK_le h.lay y
  rw [wrH, hl, wrH, with_part h _ _ (by omega) ky _ (by omega) ky, if_pos rfl, List.set_set, wrH]
  generalize fndI h.lay y = iy at *
  generalize fndK h.lay y = k at *
  obtain rfl | rfl | rfl | rfl : k = 1 ∨ k = 2 ∨ k = 3 ∨ k = 4 := by omega
  all_goals rfl
end Go.Proofs.Ytappejihclmjmaa
