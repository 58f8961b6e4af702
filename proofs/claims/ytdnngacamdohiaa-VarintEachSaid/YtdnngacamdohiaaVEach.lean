/-
  VarintEach: the walk of the law. Conditions: the slice reads as numbers of 64 bits.
-/
import Derived.Test.YtdnngacamdohiaaVRow
namespace Go.Proofs.Ytdnngacamdohiaa
open Go.RowKit

theorem row_split (f : List Nat) (i : Nat) (h : i < f.length) : rowB (f.take i) ++ vB (f[i]?.getD 0) ++ rowB (f.drop (i + 1)) = rowB f := by
  rw [← rowB_succ f i h, ← rowB_append, List.take_append_drop]
theorem veach_take (p a b : List UInt8) (f : List Nat) (y i : Nat) (hp : p = rowB f) (hi : i < f.length) (ha : a = rowB (f.take i)) (hy : y = f[i]?.getD 0) (hb : b = vB y) (hl : p.length ≤ 1000) (hv : y < 18446744073709551616) (W : World) :
    Calls Try.prog 34 #[.string ⟨p.toArray⟩, .int .i64 (a.length : Int)] W (fun e w' => e = .returned (.tuple #[.int .u64 (y : Int), .int .i64 ((a.length : Int) + (b.length : Int)), .int .i64 0]) ∧ W = w') := by
  have e : a ++ b ++ rowB (f.drop (i + 1)) = p := by rw [hp, ha, hb, hy]; exact row_split f i hi
  have h := vtake_back a (rowB (f.drop (i + 1))) y b hb hv (by rw [e]; exact hl) W
  rwa [e] at h

def VEachRel (f : List Nat) (w : World) (x i : Value) (wr : World) : Prop := ∃ k, k ≤ f.length ∧ i = .int .i64 (k : Int) ∧ x = .int .i64 (((rowB (f.take k)).length : Nat) : Int) ∧ Below w.heap.size w wr
theorem veach_rel {f : List Nat} {w wr : World} {k y : Nat} {a b : List UInt8} {X : Int} (h : k < f.length) (hy : y = f[k]?.getD 0) (ha : a = rowB (f.take k)) (hb : b = vB y) (hX : X = (a.length : Int) + (b.length : Int)) (hw : Below w.heap.size w wr) : VEachRel f w (.int .i64 X) (.int .i64 ((k : Int) + 1)) wr :=
  ⟨k + 1, h, by go_num, by rw [hX, rowB_succ f k h, List.length_append, ← hy, ← ha, ← hb, Int.natCast_add], hw⟩

theorem wpList_append_rdG {w : World} {ops : Array Oper} {rest : List Oper} {o : Oper} {a : Act} {Q : Exit → Act → World → Prop} (hw : Region.wanted o (yielded ops a.tmps) = true) (s x : Operand)
    (ho : o.op = .call { callee := .builtin .append, args := #[s, x], argTypes := #[22, 22] }) (B : Nat) (v : Value) (n : Nat) (xs : List Value) (hs : a.eval s = v) (hown : w.ownsRow B 40 1 v n xs) (hB : B ≤ w.heap.size)
    (A : Option Addr) (c : Nat) (L : List Nat) (hx : a.eval x = .slice A L.length c) (hr : Rd w A (us L)) (hm : n + L.length ≤ 1000)
    (h : ∀ v' w', w'.ownsRow B 40 1 v' (n + L.length) (xs ++ us L) → Below B w w' → wpList Try.prog ops Q rest (a.put o.dst v') w') : wpList Try.prog ops Q (o :: rest) a w :=
  wpList_step fun K hK => by
    simp only [hw, if_true]
    exact wp_append_rd s x ho B v n xs hs hown hB A c L hx hr hm fun v' w' h1 h2 => hK _ _ (h v' w' h1 h2)

set_option maxRecDepth 100000 in
set_option maxHeartbeats 2000000 in
theorem veach_walk (A : Option Addr) (l : List Nat) (cap : Nat) (w : World) (hr : Rd w A (us l)) (hc : l.length ≤ cap) (hm : cap ≤ 9223372036854775807) (hv : ∀ x ∈ l, x < 18446744073709551616) :
    Calls Try.prog 14 #[.slice A l.length cap] w (RetTrue w) := by
  obtain ⟨f, hf⟩ : ∃ f, f = l.take 40 := ⟨_, rfl⟩
  have hmin := min_is (P := Try.prog) l.length f.length 40 (by rw [hf, List.length_take]; omega)
  have hf40 : f.length ≤ 40 := by rw [hf, List.length_take]; omega
  have hfl : f.length ≤ l.length := by rw [hf, List.length_take]; omega
  have hvf : ∀ x ∈ f, x < 18446744073709551616 := fun x hx => hv x (List.mem_of_mem_take (by rw [← hf]; exact hx))
  have hrf0 : Rd w A (us f) := by rw [hf]; exact hr.take 40
  clear hf hr hv
  obtain ⟨p, hp⟩ : ∃ p, p = rowB f := ⟨_, rfl⟩
  have hpl : p.length ≤ 400 := by rw [hp]; have := rowB_len f; omega
  have hrow : ∀ W, Rd W A (us f) → Calls Try.prog 31 #[.slice A f.length cap] W fun e w' => e = .returned (.string ⟨p.toArray⟩) ∧ Below W.heap.size W w' := fun W hW => by
    rw [hp]; exact row_any A f cap W hW (by omega) hvf
  have hadd := str_add (P := Try.prog) [0] p (0 :: p) rfl (by simp only [List.length_cons]; omega)
  have ht : ∀ W, Calls Try.prog 36 #[.string ⟨(0 :: p).toArray⟩, .int .i64 0, .int .i64 ((f.length : Int) + 1)] W (RetTake (0 :: f) ((p.length : Int) + 1) 0 W) := fun W => by
    have h := vrow_back [] [] (0 :: p) (0 :: f) 0 ((f.length : Int) + 1) (by rw [rowB_cons, hp, List.append_nil]; rfl) rfl (by simp) (by simp only [List.length_cons]; omega) (by simp only [List.length_cons]; omega) (by
      intro y hy
      rcases List.mem_cons.1 hy with rfl | hy
      · decide
      · exact hvf y hy) W
    rw [rowB_cons, show vB 0 = [0] from rfl, ← hp] at h
    rw [show ((p.length : Int) + 1) = (([] : List UInt8).length + ([0] ++ p).length : Nat) by simp]
    exact h
  have HROW := Lib.hid hrow
  have HT := Lib.hid ht
  have HP := Lib.hid hp
  have HV := Lib.hid hvf
  clear hrow ht hp hvf
  go_enter Try.func14, Try.ntmps14
  go_wp2_with fail
  refine (awake1_any _).mono ?_
  rintro e w1 ⟨rfl, hb1⟩
  go_wp2_with fail
  refine (HROW.out _ (hrf0.below hb1)).mono ?_
  rintro e w2 ⟨rfl, hb2⟩
  have hb12 := bl_step hb1 hb2
  have hrf2 := hrf0.below hb12
  clear hb1 hb2 hrf0
  go_wp2
  go_loopw [6, 7] (fun x i wr => VEachRel f w2 x i wr) (fun _ i _ => f.length - (intOf i).toNat)
  case atStart => exact ⟨0, Nat.zero_le _, rfl, by simp [rowB], bl_refl _⟩
  case round =>
    obtain ⟨i, hi, rfl, rfl, hb⟩ := hrel
    by_cases hlt : i < f.length
    · obtain ⟨bk, off, rfl, _, hcell⟩ := (hrf2.below hb).us_at (k := i) hlt
      obtain ⟨z, hz⟩ : ∃ z, z = f[i]?.getD 0 := ⟨_, rfl⟩
      have hz64 : z < 18446744073709551616 := by rw [hz, List.getElem?_eq_getElem hlt]; exact HV.out _ (List.getElem_mem hlt)
      rw [← hz] at hcell
      have hzl := vB_len z
      obtain ⟨a, ha⟩ : ∃ a, a = rowB (f.take i) := ⟨_, rfl⟩
      have hal : a.length ≤ 400 := by rw [ha]; have := rowB_len (f.take i); rw [List.length_take] at this; omega
      obtain ⟨b, hb0⟩ : ∃ b, b = vB z := ⟨_, rfl⟩
      have hlen := fun W => vlen_any z W hz64
      have htk := fun W => veach_take p a b f z i HP.out hlt ha hz hb0 (by omega) hz64 W
      rw [← ha]
      rw [← hb0] at hzl hlen
      have HZ := Lib.hid hz
      have HA := Lib.hid ha
      have HB := Lib.hid hb0
      have HLEN := Lib.hid hlen
      have HTK := Lib.hid htk
      have hsub : (a.length : Int) + (b.length : Int) - (a.length : Int) = (b.length : Int) := by omega
      clear hz ha hb0 hlen htk
      go_wp2_with fail
      refine (HTK.out _).mono ?_
      rintro e w5 ⟨rfl, rfl⟩
      go_wp2_with fail
      refine (HLEN.out _).mono ?_
      rintro e w5 ⟨rfl, rfl⟩
      go_wp2
      exact ⟨veach_rel hlt HZ.out HA.out HB.out rfl hb, by simp [intOf]; omega⟩
    · obtain rfl : i = f.length := by omega
      rw [List.take_length, ← HP.out]
      go_wp2_with fail
      refine (HT.out _).mono ?_
      rintro e w3 ⟨A3, c3, rfl, hr3, hc3, hm3, hb3⟩
      have hb23 := bl_step hb hb3
      have hrf3 := hrf2.below hb23
      have hb13 := bl_step hb12 hb23
      have hn : ∀ W A6 c6 n6 m6, n6 = f.length + 1 → m6 = f.length + 1 → Rd W A3 (us (0 :: f)) → Rd W A6 (us (0 :: f)) → Calls Try.prog 25 #[.slice A3 n6 c3, .slice A6 m6 c6] W (fun e w' => e = .returned (.bool true) ∧ ∃ n, w' = W.drewN n) := fun W A6 c6 n6 m6 h1 h2 h3 h6 => by
        subst h1; subst h2
        have h := nums_any A3 A6 (0 :: f) (0 :: f) c3 c6 W h3 h6 (by simp only [List.length_cons]; omega)
        simpa using h
      have HN := Lib.hid hn
      clear hb hb3 hb23 hrf2 hb12 hn
      go_wp2_with (at_builtin; refine wpList_append_rdG (by rfl) _ _ rfl w3.heap.size _ 1 _ rfl (World.ownsRow_lit w3 #[.int .u64 0] 1 (Nat.le_refl _) (by decide) rfl) (by simp) A cap f rfl (hrf3.alloc _) (by omega) ?_)
      intro v6 w6 ho6 hb6
      obtain ⟨A6, c6, rfl⟩ := own_form ho6
      have hr6 : Rd w6 A6 (us (0 :: f)) := (Rd.of_own ho6).1
      have hb36 : Below w3.heap.size w3 w6 := (bl_alloc (bl_refl w3) _).trans hb6
      go_wp2_with fail
      refine (HN.out _ A6 c6 _ _ ?_ ?_ ?_ ?_).mono ?_
      · omega
      · omega
      · exact hr3.below hb36
      · exact hr6
      rintro e wC ⟨rfl, nC, rfl⟩
      go_wp2
      go_ret
      exact ⟨rfl, bl_drewN (bl_step hb13 hb36) _⟩
end Go.Proofs.Ytdnngacamdohiaa
