/-
  Words that all texts of this seat share: a slice that reads as a list of cells; numbers and bytes as cells. Plain laws, no condition.
-/
import Derived.Test.YtappejihclmjmaaRows
import Derived.WalkKit
import Derived.WalkSpells
import Derived.WalkLawsBesides
namespace Go.Proofs.Ytappejihclmjmaa
open Go.RowKit

/-- Numbers of 64 bits as cells. -/
def us (l : List Nat) : List Value := l.map fun (x : Nat) => Value.int .u64 (x : Int)
/-- Bytes as cells. -/
def bs (l : List UInt8) : List Value := l.map fun (x : UInt8) => Value.int .u8 (x.toNat : Int)

theorem us_len (l : List Nat) : (us l).length = l.length := by simp [us]
theorem bs_len (l : List UInt8) : (bs l).length = l.length := by simp [bs]
theorem us_get (l : List Nat) (k : Nat) (h : k < l.length) : (us l)[k]? = some (.int .u64 ((l[k]?.getD 0 : Nat) : Int)) := by simp [us, h]
theorem bs_get (l : List UInt8) (k : Nat) (h : k < l.length) : (bs l)[k]? = some (.int .u8 ((l[k]?.getD 0).toNat : Int)) := by simp [bs, h]

theorem us_append (a b : List Nat) : us (a ++ b) = us a ++ us b := by simp [us]
theorem bs_append (a b : List UInt8) : bs (a ++ b) = bs a ++ bs b := by simp [bs]

/-- The slice that begins at A reads the cells xs (nil and empty let in). -/
def Rd (w : World) (A : Option Addr) (xs : List Value) : Prop :=
  0 < xs.length → ∃ b off, A = some ⟨b, off, none⟩ ∧ ∀ j u, xs[j]? = some u → w.cell? ⟨b, off + j, none⟩ = some u

theorem Rd.none_ (w : World) (A : Option Addr) : Rd w A [] := fun h => by simp at h

theorem Rd.lt {w : World} {b off : Nat} {xs : List Value} (h0 : 0 < xs.length) (h : ∀ j u, xs[j]? = some u → w.cell? ⟨b, off + j, none⟩ = some u) : b < w.heap.size := by
  have := h 0 xs[0] (by simp [h0])
  exact World.block_lt_of_cell? w _ this

theorem Rd.below {w w' : World} {A : Option Addr} {xs : List Value} (h : Rd w A xs) (hb : Below w.heap.size w w') : Rd w' A xs := fun h0 => by
  obtain ⟨b, off, e, hc⟩ := h h0
  have hl := Rd.lt h0 hc
  exact ⟨b, off, e, fun j u hu => (hb.cell (p := ⟨b, off + j, none⟩) hl).trans (hc j u hu)⟩

theorem Rd.at_ {w : World} {A : Option Addr} {xs : List Value} (h : Rd w A xs) {k : Nat} (hk : k < xs.length) :
    ∃ b off u, A = some ⟨b, off, none⟩ ∧ b < w.heap.size ∧ xs[k]? = some u ∧ w.cell? ⟨b, off + k, none⟩ = some u := by
  obtain ⟨b, off, e, hc⟩ := h (by omega)
  exact ⟨b, off, xs[k], e, Rd.lt (by omega) hc, by simp [hk], hc k _ (by simp [hk])⟩

theorem Rd.us_at {w : World} {A : Option Addr} {l : List Nat} (h : Rd w A (us l)) {k : Nat} (hk : k < l.length) :
    ∃ b off, A = some ⟨b, off, none⟩ ∧ b < w.heap.size ∧ w.cell? ⟨b, off + k, none⟩ = some (.int .u64 ((l[k]?.getD 0 : Nat) : Int)) := by
  obtain ⟨b, off, u, e, hb, hu, hc⟩ := h.at_ (k := k) (by rw [us_len]; exact hk)
  rw [us_get l k hk] at hu
  cases hu
  exact ⟨b, off, e, hb, hc⟩

theorem Rd.bs_at {w : World} {A : Option Addr} {l : List UInt8} (h : Rd w A (bs l)) {k : Nat} (hk : k < l.length) :
    ∃ b off, A = some ⟨b, off, none⟩ ∧ b < w.heap.size ∧ w.cell? ⟨b, off + k, none⟩ = some (.int .u8 ((l[k]?.getD 0).toNat : Int)) := by
  obtain ⟨b, off, u, e, hb, hu, hc⟩ := h.at_ (k := k) (by rw [bs_len]; exact hk)
  rw [bs_get l k hk] at hu
  cases hu
  exact ⟨b, off, e, hb, hc⟩

/-- A block that was just laid reads so. -/
theorem Rd.lit (w : World) (xs : Array Value) (t : TypeId) (l : List Value) (h : xs.toList = l) : Rd (w.alloc (.cells xs t)) (some ⟨w.heap.size, 0, none⟩) l := fun _ => by
  subst h
  refine ⟨w.heap.size, 0, rfl, fun j u hu => ?_⟩
  rw [Nat.zero_add, cell_of_row _ _ _ _ _ _ (heap_alloc_new w _)]
  simpa using hu

/-! ### one step of the world behind the other -/
theorem bl_step {a b c : World} (h : Below a.heap.size a b) (k : Below b.heap.size b c) : Below a.heap.size a c := h.trans (k.mono h.size)
theorem bl_alloc {a b : World} (h : Below a.heap.size a b) (o : Obj) : Below a.heap.size a (b.alloc o) := h.alloc h.size o
theorem bl_drewN {a b : World} (h : Below a.heap.size a b) (n : Nat) : Below a.heap.size a (b.drewN n) := ⟨h.os, h.tape, h.output, h.size, h.block⟩
theorem bl_refl (a : World) : Below a.heap.size a a := Below.refl _ _
theorem Rd.alloc {w : World} {A : Option Addr} {xs : List Value} (h : Rd w A xs) (o : Obj) : Rd (w.alloc o) A xs := h.below (bl_alloc (bl_refl w) o)

theorem Rd.take {w : World} {A : Option Addr} {l : List Nat} (h : Rd w A (us l)) (m : Nat) : Rd w A (us (l.take m)) := fun h0 => by
  rw [us_len, List.length_take] at h0
  obtain ⟨b, off, e, hc⟩ := h (by rw [us_len]; omega)
  refine ⟨b, off, e, fun j u hu => hc j u ?_⟩
  rw [us, List.map_take, List.getElem?_take] at hu
  split at hu
  · exact hu
  · cases hu

/-- What the call owns reads so, and lies in new memory. -/
theorem Rd.of_own {w : World} {base : Nat} {e : TypeId} {A : Option Addr} {n c : Nat} {xs : List Value} (h : w.ownsRow base e 1 (.slice A n c) n xs) : Rd w A xs ∧ n ≤ c ∧ c ≤ maxLen ∧ xs.length = n := by
  obtain ⟨h1, h2⟩ := h
  rcases h2 with ⟨h2, h3⟩ | ⟨g, cap, cur, hv, hg, hh, hn, hm, hs, ht⟩
  · injection h2 with a1 a2 a3
    subst a2; subst a3
    have : xs = [] := List.eq_nil_of_length_eq_zero (by simpa using h1)
    subst this
    exact ⟨Rd.none_ _ _, Nat.le_refl _, by simp [maxLen], by simp⟩
  · have hown : w.ownsRow base e 1 (.slice A n c) n xs := ⟨h1, .inr ⟨g, cap, cur, hv, hg, hh, hn, hm, hs, ht⟩⟩
    injection hv with a1 a2 a3
    subst a1; subst a3
    refine ⟨fun _ => ⟨g, 0, rfl, fun j u hu => ?_⟩, hn, hm, by omega⟩
    have := hown.cells (g := g) rfl j u hu
    simpa [Addr.add_lit] using this

/-- The shape of a value that the call owns. -/
theorem own_form {w : World} {base : Nat} {e : TypeId} {v : Value} {n : Nat} {xs : List Value} (h : w.ownsRow base e 1 v n xs) : ∃ A c, v = .slice A n c := by
  rcases h.2 with ⟨h2, h3⟩ | ⟨g, cap, cur, hv, _⟩
  · subst h3; exact ⟨none, 0, h2⟩
  · exact ⟨_, _, hv⟩

/-- 'string(b)' of bytes that read as l: nil and empty let in. -/
theorem conv_back {P : Program} (w : World) (src dst e : TypeId) (A : Option Addr) (c : Nat) (l : List UInt8) (hs : P.underlying src = some (.slice e)) (he : P.underlying e = some (.int .u8)) (hd : P.underlying dst = some .string)
    (h : Rd w A (bs l)) : (convert src dst (.slice A l.length c)).run P w = .ok (.string ⟨l.toArray⟩) w := by
  cases l with
  | nil =>
    cases A with
    | none =>
      show (convert src dst (.slice none 0 c)).run P w = _
      rw [run_convert_bytes_string w src dst e none 0 c hs he hd]; rfl
    | some a => exact run_convert_bytes_back w src dst e a c [] hs he hd (fun j hj => by simp at hj)
  | cons x r =>
    obtain ⟨b, off, rfl, hc⟩ := h (by simp [bs])
    refine run_convert_bytes_back w src dst e ⟨b, off, none⟩ c (x :: r) hs he hd fun j hj => ?_
    rw [Addr.add_lit]
    refine hc j _ ?_
    rw [bs_get _ _ hj]
    simp only [List.getElem?_eq_getElem hj, Option.getD_some]

/-- 's + t', of two short texts. -/
theorem str_add {P : Program} (a b c : List UInt8) (h : a ++ b = c) (hl : c.length ≤ 1000000) : ∀ W, (Op.stringOp .add ⟨a.toArray⟩ ⟨b.toArray⟩).run P W = .ok (.string ⟨c.toArray⟩) W := fun W => by
  have hl2 : a.length + b.length = c.length := by rw [← h, List.length_append]
  rw [run_string_add_sum W _ _ (by show a.length + b.length ≤ _; omega), ByteArray.mk_append_mk, h]

/-- 'xs[k:]' of a slice of one-cell elements, under one name for its address. -/
theorem slice_from {P : Program} (t e : TypeId) (i : TypeInfo) (ht : P.underlying t = some (.slice (P.elem t))) (he : P.elem t = e) (hi : P.info? e = some i) (h1 : i.size = 1) (A : Option Addr) (n c k : Nat) (hk : k ≤ n) (hn : n ≤ c) :
    ∃ A2, (∀ W, (Instr.slice t (.slice A n c) (some (.int .i64 (k : Int))) none none).run P W = .ok (.slice A2 (n - k) (c - k)) W) ∧
      ∀ (w : World) (xs : List Value), xs.length = n → Rd w A xs → Rd w A2 (xs.drop k) := by
  refine ⟨if c = k then A else A.map (·.add (k * 1)), fun W => ?_, fun w xs hx h h0 => ?_⟩
  · rw [run_slice_l W t A n c ht .i64 (k : Int) (by omega) (by omega)]
    simp [sizeOf, typeInfo, he, hi, h1, Result.andThen, sliced]
  · rw [List.length_drop] at h0
    rw [if_neg (by omega)]
    obtain ⟨b, off, rfl, hc⟩ := h (by omega)
    refine ⟨b, off + k, by simp [Addr.add_lit], fun j u hu => ?_⟩
    rw [List.getElem?_drop] at hu
    rw [Nat.add_assoc]
    exact hc _ u hu

/-- 'min(n, m)', of a length and a literal, as a number that is named. -/
theorem min_is {P : Program} (n k : Nat) (m : Int) (h : (k : Int) = min (n : Int) m) : ∀ (ts : Array TypeId) (t : TypeId) (W : World), (Builtin.min_ ts t #[.int .i64 (n : Int), .int .i64 m]).run P W = .ok (.int .i64 (k : Int)) W := by
  intro ts t W
  rw [run_min_int2]
  congr 2
  split <;> omega

/-- '[]byte(s)': a new block; it reads as the string's bytes. -/
theorem conv_bytes {P : Program} (w : World) (src dst e : TypeId) (s : ByteArray) (n : Nat) (hn : s.size = n) (hm : n ≤ 1000000) (hs : P.underlying src = some .string) (hd : P.underlying dst = some (.slice e)) (he : P.underlying e = some (.int .u8)) :
    ∃ c W, (convert src dst (.string s)).run P w = .ok (.slice (some ⟨w.heap.size, 0, none⟩) n c) W ∧ n ≤ c ∧ Rd W (some ⟨w.heap.size, 0, none⟩) (bs s.data.toList) ∧ Below w.heap.size w W := by
  subst hn
  refine ⟨_, _, run_bytes_of_string w src dst e s hs hd he, grownCap_ge w s.size 0 e, fun _ => ⟨w.heap.size, 0, rfl, fun j u hu => ?_⟩, (Below.refl _ _).drew.alloc (Nat.le_refl _) _⟩
  have hh : (w.drew.alloc (.cells (bytesRow s (grownCap w s.size 0 e)) e ((bytesRow s (grownCap w s.size 0 e)).size, (bytesRow s (grownCap w s.size 0 e)).size + 1))).heap[w.heap.size]? = some (.cells (bytesRow s (grownCap w s.size 0 e)) e ((bytesRow s (grownCap w s.size 0 e)).size, (bytesRow s (grownCap w s.size 0 e)).size + 1)) := heap_alloc_new w.drew _
  rw [Nat.zero_add, cell_of_row _ _ _ _ _ _ hh]
  have hj : j < s.data.toList.length := by
    have := (List.getElem?_eq_some_iff.1 hu).1
    rwa [bs_len] at this
  rw [bs_get _ _ hj] at hu
  cases hu
  have hj' : j < s.data.size := by simpa using hj
  have hj2 : j < s.size := hj'
  simp [bytesRow, Array.getElem?_append, hj2]

/-- A part of what reads so reads as that part. -/
theorem Rd.part {w : World} {g o : Nat} {l : List UInt8} (h : Rd w (some ⟨g, 0, none⟩) (bs l)) (k m : Nat) (hk : k = o) : Rd w (some ⟨g, o, none⟩) (bs ((l.drop k).take m)) := fun h0 => by
  subst hk
  rw [bs_len, List.length_take, List.length_drop] at h0
  obtain ⟨b, off, e, hc⟩ := h (by rw [bs_len]; omega)
  cases e
  refine ⟨g, k, rfl, fun j u hu => ?_⟩
  have hj : j < ((l.drop k).take m).length := by
    have := (List.getElem?_eq_some_iff.1 hu).1
    rwa [bs_len] at this
  have hj2 := hj
  rw [List.length_take, List.length_drop] at hj2
  have := hc (k + j) u (by
    rw [bs_get _ _ hj] at hu
    rw [bs_get _ _ (by omega), ← hu, List.getElem?_take, if_pos (by omega), List.getElem?_drop])
  simpa using this

theorem bget (s : ByteArray) (j : Nat) (h : j < s.size) : s[j]'h = s.data.toList[j]?.getD 0 := by
  have h' : j < s.data.toList.length := by simpa using h
  rw [List.getElem?_eq_getElem h', Option.getD_some]
  cases s
  rfl

end Go.Proofs.Ytappejihclmjmaa
