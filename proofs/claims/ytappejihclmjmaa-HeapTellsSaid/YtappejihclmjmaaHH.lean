/-
  The helpers of layer 10's laws: pick, some. Conditions: integers that fit; a slice that reads as numbers of 64 bits.
-/
import Derived.Test.YtappejihclmjmaaHS
import Derived.Laws.AppendOwn
namespace Go.Proofs.Ytappejihclmjmaa
open Go.RowKit

set_option maxHeartbeats 400000 in
theorem pick10_any (c n : Int) (w : World) (h1 : -9223372036854775808 ≤ c) (h2 : c ≤ 9223372036854775807) (hn : 1 ≤ n) (hn2 : n ≤ 9223372036854775807) :
    Calls Try.prog 29 #[.int .i64 c, .int .i64 n] w fun e w' => e = .returned (.int .i64 (pickI c n)) ∧ w = w' := by
  by_cases h : c < 0
  · rw [show pickI c n = -((c + 1).tmod n) by rw [pickI, if_pos h, ← Int.neg_tmod, Int.tmod_eq_emod_of_nonneg (by omega)]]
    go_enter Try.func29, Try.ntmps29
    go_wp2
    go_ret
    exact ⟨rfl, rfl⟩
  · rw [pickI, if_neg h]
    have h : 0 ≤ c := by omega
    go_enter Try.func29, Try.ntmps29
    go_wp2
    go_ret
    exact ⟨rfl, rfl⟩

/-- Where the walk round and round stands after k steps. -/
def smAt (len a0 k : Nat) : Nat := if len = 0 then 0 else (a0 + k) % len
def smV (ws : List Nat) (a0 k : Nat) : Nat := if ws.length = 0 then k else (k + (ws[smAt ws.length a0 k]?).getD 0) % 18446744073709551616
def smL (ws : List Nat) (a0 n : Nat) : List Nat := (List.range n).map (smV ws a0)
theorem smL_len (ws : List Nat) (a0 n : Nat) : (smL ws a0 n).length = n := by simp [smL]
theorem smL_succ (ws : List Nat) (a0 n : Nat) : smL ws a0 (n + 1) = smL ws a0 n ++ [smV ws a0 n] := by simp [smL, List.range_succ]
theorem smL_lt (ws : List Nat) (a0 n : Nat) (hn : n ≤ 1000) : ∀ x ∈ smL ws a0 n, x < 18446744073709551616 := by
  intro x hx
  obtain ⟨k, hk, rfl⟩ := List.mem_map.1 hx
  have := List.mem_range.1 hk
  unfold smV
  split <;> omega
theorem smAt_lt (len a0 k : Nat) (h : len ≠ 0) : smAt len a0 k < len := by rw [smAt, if_neg h]; exact Nat.mod_lt _ (by omega)
theorem smAt_succ (len a0 k : Nat) (h : len ≠ 0) : smAt len a0 (k + 1) = if len ≤ smAt len a0 k + 1 then 0 else smAt len a0 k + 1 := by
  have hl := smAt_lt len a0 k h
  rw [smAt, smAt, if_neg h, if_neg h] at *
  rw [show a0 + (k + 1) = a0 + k + 1 by omega, Nat.add_mod]
  by_cases h1 : len = 1
  · subst h1; simp [Nat.mod_one]
  · rw [Nat.mod_eq_of_lt (a := 1) (by omega)]
    by_cases e : len ≤ (a0 + k) % len + 1
    · rw [if_pos e, show (a0 + k) % len + 1 = len by omega, Nat.mod_self]
    · rw [if_neg e, Nat.mod_eq_of_lt (by omega)]

/-- A slice is handed back that reads as the list. -/
def SlRet (l : List Nat) (w : World) (en : Ending) (w' : World) : Prop := ∃ s : Sl, en = .returned s.v ∧ Fresh w' w.heap.size w'.heap.size s l ∧ Below w.heap.size w w'

def SmRel (ws : List Nat) (a0 n : Nat) (w : World) (o a i : Value) (wr : World) : Prop :=
  ∃ k : Nat, k ≤ n ∧ i = .int .i64 (k : Int) ∧ a = .int .i64 ((smAt ws.length a0 k : Nat) : Int) ∧ wr.ownsRow w.heap.size 22 1 o k (us (smL ws a0 k)) ∧ Below w.heap.size w wr

theorem sm_end {ws : List Nat} {a0 n : Nat} {w wr : World} {v : Value} (ho : wr.ownsRow w.heap.size 22 1 v n (us (smL ws a0 n))) (hb : Below w.heap.size w wr) : SlRet (smL ws a0 n) w (.returned v) wr := by
  have h2 : wr.ownsRow w.heap.size 22 1 v (smL ws a0 n).length (us (smL ws a0 n)) := by rw [smL_len]; exact ho
  obtain ⟨s, rfl, hs⟩ := Fresh.of_own h2
  exact ⟨s, rfl, hs, hb⟩

set_option maxRecDepth 100000 in
set_option maxHeartbeats 2000000 in
theorem some_pos (A : Option Addr) (ws : List Nat) (cap : Nat) (from_ : Int) (n : Nat) (w : World) (hr : Rd w A (us ws)) (hc : ws.length ≤ 9223372036854775807) (hv : ∀ x ∈ ws, x < 18446744073709551616) (hf : 0 ≤ from_ ∧ from_ ≤ 10) (hn : n ≤ 100) (h0 : 0 < ws.length) :
    Calls Try.prog 47 #[.slice A ws.length cap, .int .i64 from_, .int .i64 (n : Int)] w (SlRet (smL ws (pickI from_ (ws.length : Int)).toNat n) w) := by
  have hpb := pickI_b from_ (ws.length : Int) (by omega)
  have HPK := Lib.hid fun W => pick10_any from_ (ws.length : Int) W (by omega) (by omega) (by omega) (by omega)
  obtain ⟨a0, ha0⟩ : ∃ a, a = (pickI from_ (ws.length : Int)).toNat := ⟨_, rfl⟩
  have hpe : pickI from_ (ws.length : Int) = (a0 : Int) := by omega
  rw [hpe] at HPK hpb
  rw [← ha0]
  have HR := Lib.hid hr
  have HV := Lib.hid hv
  have HAT := Lib.hid fun k => smAt_lt ws.length a0 k (by omega)
  have HAS := Lib.hid fun k => smAt_succ ws.length a0 k (by omega)
  have HA0 := Lib.hid (show smAt ws.length a0 0 = a0 by rw [smAt, if_neg (by omega), Nat.add_zero, Nat.mod_eq_of_lt (by omega)])
  have HNE := Lib.hid (show ws.length ≠ 0 by omega)
  clear ha0 hpe hr hv hpb
  obtain ⟨i0, hi, hz0, hz1, hz2⟩ := info_parts info_u64
  go_enter Try.func47, Try.ntmps47
  go_wp2_with fail
  refine (HPK.out _).mono ?_
  rintro e w1 ⟨rfl, rfl⟩
  go_wp2_with fail
  go_loopw [7, 8, 9] (fun o a i wr => SmRel ws a0 n w o a i wr) (fun _ _ i _ => n - (intOf i).toNat)
  case atStart => exact ⟨0, by omega, rfl, by rw [HA0.out], World.ownsRow_nil _ _ _ _, bl_refl _⟩
  case round =>
    obtain ⟨k, hk, rfl, rfl, ho, hb⟩ := hrel
    by_cases hlt : k < n
    · have hat := HAT.out k
      obtain ⟨b, off, hA, hbl, hcell⟩ := (HR.out.below hb).us_at hat
      subst hA
      have hsucc := HAS.out k
      obtain ⟨x, hx⟩ : ∃ x, x = (ws[smAt ws.length a0 k]?).getD 0 := ⟨_, rfl⟩
      have hx64 : x < 18446744073709551616 := by rw [hx, List.getElem?_eq_getElem hat]; exact HV.out _ (List.getElem_mem hat)
      have hval : smV ws a0 k = (k + x) % 18446744073709551616 := by rw [smV, if_neg HNE.out, hx]
      rw [← hx] at hcell
      have hnext := smL_succ ws a0 k
      rw [hval] at hnext
      obtain ⟨X, hX⟩ : ∃ X, X = (k + x) % 18446744073709551616 := ⟨_, rfl⟩
      have hw : IntKind.u64.wrap ((k : Int) + (x : Int)) = (X : Int) := by rw [IntKind.wrap_u64, hX]; omega
      rw [← hX] at hnext
      obtain ⟨a, ha⟩ : ∃ a, a = smAt ws.length a0 k := ⟨_, rfl⟩
      rw [← ha] at hcell hsucc hat ⊢
      have HNX := Lib.hid hnext
      have HSU := Lib.hid hsucc
      have hbs := hb.size
      clear hx hval hnext hX ha hsucc
      have hcs : ws.length ≤ a + 1 ∨ a + 1 < ws.length := by omega
      rcases hcs with hcs | hcs
      · go_wp2_with (at_builtin; refine wpList_append_own _ rfl _ _ 40 rfl w.heap.size 22 i0 (.int .u64 0) 1 8 Try.underlying40 hi hz0 hz1 hz2 rfl (by decide) _ _ _ rfl (ho.alloc _) ⟨wr.heap.size, 0, none⟩ 1 1 [.int .u64 (X : Int)] rfl rfl ?c1 ?c2 ?c3 ?c4 ?c5 ?_)
        case c1 =>
          intro q u hq
          match q, hq with
          | 0, hq => simp at hq; subst hq; simp [Addr.add]
        case c2 => first | rfl | trivial | (intro u hu; simp at hu; subst hu; rfl)
        case c3 => unfold maxLen; omega
        case c4 => omega
        case c5 => first | omega | (simp; omega)
        intro v' w5 ho' hg5 _
        have hb5 : Below w.heap.size w w5 := (hb.alloc (by omega) _).grown hg5 (by simp; omega) (fun q hq => (ho.lt q hq).1)
        clear ho hg5 hb hcell hw
        go_wp2
        exact ⟨⟨k + 1, by omega, by go_num, by rw [HSU.out, if_pos hcs]; rfl, by rw [HNX.out, us_append]; exact ho', hb5⟩, by simp [intOf]; omega⟩
      · go_wp2_with (at_builtin; refine wpList_append_own _ rfl _ _ 40 rfl w.heap.size 22 i0 (.int .u64 0) 1 8 Try.underlying40 hi hz0 hz1 hz2 rfl (by decide) _ _ _ rfl (ho.alloc _) ⟨wr.heap.size, 0, none⟩ 1 1 [.int .u64 (X : Int)] rfl rfl ?d1 ?d2 ?d3 ?d4 ?d5 ?_)
        case d1 =>
          intro q u hq
          match q, hq with
          | 0, hq => simp at hq; subst hq; simp [Addr.add]
        case d2 => first | rfl | trivial | (intro u hu; simp at hu; subst hu; rfl)
        case d3 => unfold maxLen; omega
        case d4 => omega
        case d5 => first | omega | (simp; omega)
        intro v' w5 ho' hg5 _
        have hb5 : Below w.heap.size w w5 := (hb.alloc (by omega) _).grown hg5 (by simp; omega) (fun q hq => (ho.lt q hq).1)
        clear ho hg5 hb hcell hw
        go_wp2
        exact ⟨⟨k + 1, by omega, by go_num, by rw [HSU.out, if_neg (by omega)]; go_num, by rw [HNX.out, us_append]; exact ho', hb5⟩, by simp [intOf]; omega⟩
    · obtain rfl : k = n := by omega
      go_wp2
      go_ret
      exact sm_end ho hb

set_option maxRecDepth 100000 in
set_option maxHeartbeats 2000000 in
theorem some_nil (A : Option Addr) (cap : Nat) (from_ : Int) (n : Nat) (w : World) (hn : n ≤ 100) :
    Calls Try.prog 47 #[.slice A 0 cap, .int .i64 from_, .int .i64 (n : Int)] w (SlRet (smL [] 0 n) w) := by
  obtain ⟨i0, hi, hz0, hz1, hz2⟩ := info_parts info_u64
  go_enter Try.func47, Try.ntmps47
  go_wp2_with fail
  go_loopw [7, 8, 9] (fun o a i wr => SmRel [] 0 n w o a i wr) (fun _ _ i _ => n - (intOf i).toNat)
  case atStart => exact ⟨0, by omega, rfl, rfl, World.ownsRow_nil _ _ _ _, bl_refl _⟩
  case round =>
    obtain ⟨k, hk, rfl, rfl, ho, hb⟩ := hrel
    have hz : smAt ([] : List Nat).length 0 k = 0 := rfl
    rw [hz]
    have HZ := Lib.hid (show smAt ([] : List Nat).length 0 (k + 1) = 0 from rfl)
    clear hz
    by_cases hlt : k < n
    · have HNX := Lib.hid (show smL [] 0 (k + 1) = smL [] 0 k ++ [k] from smL_succ [] 0 k)
      have hbs := hb.size
      go_wp2_with (at_builtin; refine wpList_append_own _ rfl _ _ 40 rfl w.heap.size 22 i0 (.int .u64 0) 1 8 Try.underlying40 hi hz0 hz1 hz2 rfl (by decide) _ _ _ rfl (ho.alloc _) ⟨wr.heap.size, 0, none⟩ 1 1 [.int .u64 (k : Int)] rfl rfl ?c1 ?c2 ?c3 ?c4 ?c5 ?_)
      case c1 =>
        intro q u hq
        match q, hq with
        | 0, hq => simp at hq; subst hq; simp [Addr.add]
      case c2 => first | rfl | trivial | (intro u hu; simp at hu; subst hu; rfl)
      case c3 => unfold maxLen; omega
      case c4 => omega
      case c5 => first | omega | (simp; omega)
      intro v' w5 ho' hg5 _
      have hb5 : Below w.heap.size w w5 := (hb.alloc (by omega) _).grown hg5 (by simp; omega) (fun q hq => (ho.lt q hq).1)
      clear ho hg5 hb
      go_wp2
      exact ⟨⟨k + 1, by omega, by go_num, by rw [HZ.out]; rfl, by rw [HNX.out, us_append]; exact ho', hb5⟩, by simp [intOf]; omega⟩
    · obtain rfl : k = n := by omega
      go_wp2
      go_ret
      exact sm_end ho hb

/-- Of words so many, from a place on. -/
def smOf (ws : List Nat) (from_ : Int) (n : Nat) : List Nat := smL ws (pickI from_ (ws.length : Int)).toNat n
theorem smOf_len (ws : List Nat) (from_ : Int) (n : Nat) : (smOf ws from_ n).length = n := smL_len _ _ _
theorem smL_nil (a n : Nat) : smL [] a n = smL [] 0 n := rfl
theorem some_any (A : Option Addr) (ws : List Nat) (cap : Nat) (from_ : Int) (n : Nat) (w : World) (hr : Rd w A (us ws)) (hc : ws.length ≤ 9223372036854775807) (hv : ∀ x ∈ ws, x < 18446744073709551616) (hf : 0 ≤ from_ ∧ from_ ≤ 10) (hn : n ≤ 100) :
    Calls Try.prog 47 #[.slice A ws.length cap, .int .i64 from_, .int .i64 (n : Int)] w (SlRet (smOf ws from_ n) w) := by
  rcases Nat.eq_zero_or_pos ws.length with h0 | h0
  · have e : ws = [] := List.eq_nil_of_length_eq_zero h0
    subst e
    exact some_nil A cap from_ n w hn
  · exact some_pos A ws cap from_ n w hr hc hv hf hn h0
end Go.Proofs.Ytappejihclmjmaa
