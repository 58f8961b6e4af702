/-
  append onto a row of the call's own, of a slice that reads as a list and may be nil. No condition but a length.
-/
import Derived.Test.YtappejihclmjmaaBase
import Derived.Laws.AppendOwnNone
namespace Go.Proofs.Ytappejihclmjmaa
open Go.RowKit

theorem info_u64 : (Try.prog.info? 22).map (fun i => (i.zero, i.size, i.bytes)) = some (some (.int .u64 0), 1, 8) := by kernel_rfl

/-- A list that is read is laid behind what the call owns: at the operation. -/
theorem wp_append_rd {w : World} {o : Oper} {a : Act} {K : Act → World → Prop} {Q : Exit → Act → World → Prop} (s x : Operand)
    (ho : o.op = .call { callee := .builtin .append, args := #[s, x], argTypes := #[40, 40] }) (B : Nat) (v : Value) (n : Nat) (xs : List Value) (hs : a.eval s = v) (hown : w.ownsRow B 22 1 v n xs) (hB : B ≤ w.heap.size)
    (A : Option Addr) (c : Nat) (L : List Nat) (hx : a.eval x = .slice A L.length c) (hr : Rd w A (us L)) (hm : n + L.length ≤ 1000)
    (h : ∀ v' w', w'.ownsRow B 22 1 v' (n + L.length) (xs ++ us L) → Below B w w' → K (a.put o.dst v') w') : o.wp Try.prog a w K Q := by
  obtain ⟨i0, hi, hz0, hz1, hz2⟩ := info_parts info_u64
  cases A with
  | none =>
    have hL : L = [] := by
      cases L with
      | nil => rfl
      | cons y r => obtain ⟨b, off, e, _⟩ := hr (by simp [us]); cases e
    subst hL
    have hrun : (Builtin.append_ #[40, 40] o.type #[v, .slice none 0 c]).run Try.prog w = .ok v w := by
      rcases hown.2 with ⟨rfl, rfl⟩ | ⟨g, cap, cur, rfl, _, _, hnc, _⟩
      · simp [Builtin.append_, run_underlying Try.underlying40, sizeOf, typeInfo, hi, Builtin.lenOf, Builtin.firstCells]
      · simp [Builtin.append_, run_underlying Try.underlying40, sizeOf, typeInfo, hi, Builtin.lenOf, Builtin.firstCells, hnc, storeCells]
    have hx' : a.eval x = .slice none 0 c := hx
    unfold Oper.wp
    simp [execOp, ho, resolve, invoke, builtin, hs, hx', hrun, Result.andThen]
    exact h v w (by simpa [us] using hown) (Below.refl _ _)
  | some ad =>
    refine wp_append_own w s x 40 ho B 22 i0 (.int .u64 0) 1 8 Try.underlying40 hi hz0 hz1 hz2 rfl (by decide) v n xs hs hown ad L.length c (us L) hx (by rw [us_len, Nat.mul_one]) ?_ ?_ (by unfold maxLen; omega) (by omega) hB ?_
    · intro j u hj
      have h0 : 0 < (us L).length := by have := (List.getElem?_eq_some_iff.1 hj).1; omega
      obtain ⟨b, off, e, hc⟩ := hr h0
      injection e with e
      subst e
      have := hc j u hj
      by_cases h0 : j = 0
      · subst h0; simpa [Addr.add] using this
      · simpa [Addr.add, h0] using this
    · intro u hu
      obtain ⟨y, _, rfl⟩ := List.mem_map.1 hu
      rfl
    · intro v' w' h1 h2 _
      exact h v' w' h1 ((Below.refl _ _).grown h2 hB (fun j hj => (hown.lt j hj).1))
theorem wpList_append_rd {w : World} {ops : Array Oper} {rest : List Oper} {o : Oper} {a : Act} {Q : Exit → Act → World → Prop} (hgd : o.guard = none) (s x : Operand)
    (ho : o.op = .call { callee := .builtin .append, args := #[s, x], argTypes := #[40, 40] }) (B : Nat) (v : Value) (n : Nat) (xs : List Value) (hs : a.eval s = v) (hown : w.ownsRow B 22 1 v n xs) (hB : B ≤ w.heap.size)
    (A : Option Addr) (c : Nat) (L : List Nat) (hx : a.eval x = .slice A L.length c) (hr : Rd w A (us L)) (hm : n + L.length ≤ 1000)
    (h : ∀ v' w', w'.ownsRow B 22 1 v' (n + L.length) (xs ++ us L) → Below B w w' → wpList Try.prog ops Q rest (a.put o.dst v') w') : wpList Try.prog ops Q (o :: rest) a w :=
  wpList_plain hgd fun _ hK => wp_append_rd s x ho B v n xs hs hown hB A c L hx hr hm fun v' w' h1 h2 => hK _ _ (h v' w' h1 h2)
end Go.Proofs.Ytappejihclmjmaa
