/-
  VarintRow: the walk of the law. Conditions: the slice reads as numbers of 64 bits, integers that fit.
-/
import Derived.Test.YtdnngacamdohiaaVBack
import Derived.Laws.AppendOwnNone
import Derived.Deep.RegionHeld3
import Derived.Deep.DeepCutAuto
import Derived.Deep.DrawnRows
namespace Go.Proofs.Ytdnngacamdohiaa
open Go.RowKit

/-- A list that is read is laid behind what the call owns: at the operation. -/
theorem wp_append_rd {w : World} {o : Oper} {a : Act} {K : Act → World → Prop} {Q : Exit → Act → World → Prop} (s x : Operand)
    (ho : o.op = .call { callee := .builtin .append, args := #[s, x], argTypes := #[22, 22] }) (B : Nat) (v : Value) (n : Nat) (xs : List Value) (hs : a.eval s = v) (hown : w.ownsRow B 40 1 v n xs) (hB : B ≤ w.heap.size)
    (A : Option Addr) (c : Nat) (L : List Nat) (hx : a.eval x = .slice A L.length c) (hr : Rd w A (us L)) (hm : n + L.length ≤ 1000)
    (h : ∀ v' w', w'.ownsRow B 40 1 v' (n + L.length) (xs ++ us L) → Below B w w' → K (a.put o.dst v') w') : o.wp Try.prog a w K Q := by
  obtain ⟨i0, hi, hz0, hz1, hz2⟩ := info_parts info_u64
  cases A with
  | none =>
    have hL : L = [] := by
      cases L with
      | nil => rfl
      | cons y r => obtain ⟨b, off, e, _⟩ := hr (by simp [us]); cases e
    subst hL
    have hrun : (Builtin.append_ #[22, 22] o.type #[v, .slice none 0 c]).run Try.prog w = .ok v w := by
      rcases hown.2 with ⟨rfl, rfl⟩ | ⟨g, cap, cur, rfl, _, _, hnc, _⟩
      · simp [Builtin.append_, run_underlying Try.underlying22, sizeOf, typeInfo, hi, Builtin.lenOf, Builtin.firstCells]
      · simp [Builtin.append_, run_underlying Try.underlying22, sizeOf, typeInfo, hi, Builtin.lenOf, Builtin.firstCells, hnc, storeCells]
    have hx' : a.eval x = .slice none 0 c := hx
    unfold Oper.wp
    simp [execOp, ho, resolve, invoke, builtin, hs, hx', hrun, Result.andThen]
    exact h v w (by simpa [us] using hown) (Below.refl _ _)
  | some ad =>
    refine wp_append_own w s x 22 ho B 40 i0 (.int .u64 0) 1 8 Try.underlying22 hi hz0 hz1 hz2 rfl (by decide) v n xs hs hown ad L.length c (us L) hx (by rw [us_len, Nat.mul_one]) ?_ ?_ (by unfold maxLen; omega) (by omega) hB ?_
    · intro j u hj
      have h0 : 0 < (us L).length := by have := (List.getElem?_eq_some_iff.1 hj).1; omega
      obtain ⟨b, off, e, hc⟩ := hr h0
      injection e with e
      subst e
      have := hc j u hj
      by_cases h0 : j = 0
      · subst h0; simpa [Addr.add] using this
      · simpa [Addr.add, h0] using this
    · intro u hu
      obtain ⟨y, _, rfl⟩ := List.mem_map.1 hu
      rfl
    · intro v' w' h1 h2 _
      exact h v' w' h1 ((Below.refl _ _).grown h2 hB (fun j hj => (hown.lt j hj).1))
theorem wpList_append_rd {w : World} {ops : Array Oper} {rest : List Oper} {o : Oper} {a : Act} {Q : Exit → Act → World → Prop} (hgd : o.guard = none) (s x : Operand)
    (ho : o.op = .call { callee := .builtin .append, args := #[s, x], argTypes := #[22, 22] }) (B : Nat) (v : Value) (n : Nat) (xs : List Value) (hs : a.eval s = v) (hown : w.ownsRow B 40 1 v n xs) (hB : B ≤ w.heap.size)
    (A : Option Addr) (c : Nat) (L : List Nat) (hx : a.eval x = .slice A L.length c) (hr : Rd w A (us L)) (hm : n + L.length ≤ 1000)
    (h : ∀ v' w', w'.ownsRow B 40 1 v' (n + L.length) (xs ++ us L) → Below B w w' → wpList Try.prog ops Q rest (a.put o.dst v') w') : wpList Try.prog ops Q (o :: rest) a w :=
  wpList_plain hgd fun _ hK => wp_append_rd s x ho B v n xs hs hown hB A c L hx hr hm fun v' w' h1 h2 => hK _ _ (h v' w' h1 h2)
theorem step_append_rd {w : World} {ops : Array Oper} {o : Oper} {a : Act} {K : Act → World → Prop} {Q : Exit → Act → World → Prop} {E : Prop} (hw : Region.wanted o (yielded ops a.tmps) = true) (s x : Operand)
    (ho : o.op = .call { callee := .builtin .append, args := #[s, x], argTypes := #[22, 22] }) (B : Nat) (v : Value) (n : Nat) (xs : List Value) (hs : a.eval s = v) (hown : w.ownsRow B 40 1 v n xs) (hB : B ≤ w.heap.size)
    (A : Option Addr) (c : Nat) (L : List Nat) (hx : a.eval x = .slice A L.length c) (hr : Rd w A (us L)) (hm : n + L.length ≤ 1000)
    (h : ∀ v' w', w'.ownsRow B 40 1 v' (n + L.length) (xs ++ us L) → Below B w w' → K (a.put o.dst v') w') : if Region.wanted o (yielded ops a.tmps) = true then Oper.wp Try.prog o a w K Q else E := by
  rw [if_pos hw]
  exact wp_append_rd s x ho B v n xs hs hown hB A c L hx hr hm h

theorem vrow_len (A : Option Addr) (l : List Nat) (n c : Nat) (w : World) (e : l.length = n) (hr : Rd w A (us l)) (hl : n ≤ 10000) (hv : ∀ x ∈ l, x < 18446744073709551616) :
    Calls Try.prog 31 #[.slice A n c] w fun e w' => e = .returned (.string ⟨(rowB l).toArray⟩) ∧ Below w.heap.size w w' := by
  subst e; exact row_any A l c w hr hl hv

theorem trow_nat (l : List UInt8) (i m : Nat) : trow l (i : Int) (m : Int) = tr l m [] (i : Int) := by
  rw [trow, if_neg (by omega), Int.toNat_natCast]

/-- A row that was put is taken. -/
theorem vrow_back (a z q : List UInt8) (x : List Nat) (i m : Int) (hq : q = a ++ rowB x ++ z) (hi : i = (a.length : Int)) (hm : m = (x.length : Int)) (hl : q.length ≤ 1000) (hx : x.length ≤ 1000) (hv : ∀ y ∈ x, y < 18446744073709551616) (W : World) :
    Calls Try.prog 36 #[.string ⟨q.toArray⟩, .int .i64 i, .int .i64 m] W (RetTake x ((a.length + (rowB x).length : Nat) : Int) 0 W) := by
  subst hi; subst hm
  have h := takerow_any ⟨q.toArray⟩ (a.length : Int) (x.length : Int) W (by show q.length ≤ _; omega) (by omega)
  rw [show trow (ByteArray.mk q.toArray).data.toList (a.length : Int) (x.length : Int) = (0, x, ((a.length + (rowB x).length : Nat) : Int)) by
    rw [trow_nat, show (ByteArray.mk q.toArray).data.toList = q from rfl, hq, tr_back z x a [] hv]; rfl] at h
  exact h
theorem vrow_more (a q : List UInt8) (x : List Nat) (i m : Int) (hq : q = a ++ rowB x) (hi : i = (a.length : Int)) (hm : m = (x.length : Int) + 1) (hl : q.length ≤ 1000) (hx : x.length ≤ 1000) (hv : ∀ y ∈ x, y < 18446744073709551616) (W : World) :
    Calls Try.prog 36 #[.string ⟨q.toArray⟩, .int .i64 i, .int .i64 m] W (RetTake [] 0 2 W) := by
  subst hi; subst hm
  have h := takerow_any ⟨q.toArray⟩ (a.length : Int) ((x.length : Int) + 1) W (by show q.length ≤ _; omega) (by omega)
  rw [show trow (ByteArray.mk q.toArray).data.toList (a.length : Int) ((x.length : Int) + 1) = (2, [], 0) by
    rw [show ((x.length : Int) + 1) = ((x.length + 1 : Nat) : Int) by omega, trow_nat, show (ByteArray.mk q.toArray).data.toList = q from rfl, hq, tr_more x a [] hv]] at h
  exact h

def VRowRel (f : List Nat) (w : World) (x i : Value) (wr : World) : Prop := ∃ k, k ≤ f.length ∧ i = .int .i64 (k : Int) ∧ x = .int .i64 (((rowB (f.take k)).length : Nat) : Int) ∧ Below w.heap.size w wr
theorem vrow_rel {f : List Nat} {w wr : World} {k y s : Nat} {X : Int} (h : k < f.length) (hy : y = f[k]?.getD 0) (hs : s = (rowB (f.take k)).length) (hX : X = (s : Int) + ((vB y).length : Int)) (hb : Below w.heap.size w wr) : VRowRel f w (.int .i64 X) (.int .i64 ((k : Int) + 1)) wr :=
  ⟨k + 1, h, by go_num, by rw [hX, rowB_succ f k h, List.length_append, ← hy, ← hs, Int.natCast_add], hb⟩

set_option maxRecDepth 100000 in
set_option maxHeartbeats 2000000 in
theorem vrow_walk (A : Option Addr) (l : List Nat) (cap : Nat) (at_ : Int) (w : World) (hr : Rd w A (us l)) (hc : l.length ≤ cap) (hm : cap ≤ 9223372036854775807) (hv : ∀ x ∈ l, x < 18446744073709551616) (ha1 : -9223372036854775808 ≤ at_) (ha2 : at_ ≤ 9223372036854775807) :
    Calls Try.prog 13 #[.slice A l.length cap, .int .i64 at_] w (RetTrue w) := by
  obtain ⟨f, hf⟩ : ∃ f, f = l.take 40 := ⟨_, rfl⟩
  have hmin := min_is (P := Try.prog) l.length f.length 40 (by rw [hf, List.length_take]; omega)
  have hf40 : f.length ≤ 40 := by rw [hf, List.length_take]; omega
  have hfl : f.length ≤ l.length := by rw [hf, List.length_take]; omega
  have hvf : ∀ x ∈ f, x < 18446744073709551616 := fun x hx => hv x (List.mem_of_mem_take (by rw [← hf]; exact hx))
  have hrf0 : Rd w A (us f) := by rw [hf]; exact hr.take 40
  clear hf hr hv
  obtain ⟨k, hk0⟩ : ∃ k, k = pickN at_ (f.length + 1) := ⟨_, rfl⟩
  have hk : k < f.length + 1 := by rw [hk0]; exact pickN_lt _ _ (by omega)
  have hpick := fun W => pick1_any at_ (f.length + 1) W ha1 ha2 (by omega) (by omega)
  rw [← hk0] at hpick
  clear hk0
  obtain ⟨p, hp⟩ : ∃ p, p = rowB f := ⟨_, rfl⟩
  have hpl : p.length ≤ 400 := by rw [hp]; have := rowB_len f; omega
  obtain ⟨x, hx⟩ : ∃ x, x = f.take k := ⟨_, rfl⟩
  obtain ⟨y, hy⟩ : ∃ y, y = f.drop k := ⟨_, rfl⟩
  have hxl : x.length = k := by rw [hx, List.length_take]; omega
  have hyl : y.length = f.length - k := by rw [hy, List.length_drop]
  have hxy : x ++ y = f := by rw [hx, hy, List.take_append_drop]
  have hvx : ∀ z ∈ x, z < 18446744073709551616 := fun z hz => hvf z (List.mem_of_mem_take (by rw [← hx]; exact hz))
  have hvy : ∀ z ∈ y, z < 18446744073709551616 := fun z hz => hvf z (List.mem_of_mem_drop (by rw [← hy]; exact hz))
  obtain ⟨pa, hpa⟩ : ∃ pa, pa = rowB x := ⟨_, rfl⟩
  obtain ⟨pb, hpb⟩ : ∃ pb, pb = rowB y := ⟨_, rfl⟩
  have hpab : p = pa ++ pb := by rw [hp, hpa, hpb, ← rowB_append, hxy]
  have hpal : pa.length ≤ 400 := by rw [hpab, List.length_append] at hpl; omega
  have hrow : ∀ W, Rd W A (us f) → Calls Try.prog 31 #[.slice A f.length cap] W fun e w' => e = .returned (.string ⟨p.toArray⟩) ∧ Below W.heap.size W w' := fun W hW => by
    rw [hp]; exact row_any A f cap W hW (by omega) hvf
  have ht1 : ∀ W, Calls Try.prog 36 #[.string ⟨p.toArray⟩, .int .i64 0, .int .i64 (k : Int)] W (RetTake x (pa.length : Int) 0 W) := fun W => by
    have h := vrow_back [] pb p x 0 (k : Int) (by rw [hpab, hpa]; rfl) rfl (by rw [hxl]) (by omega) (by omega) hvx W
    rwa [← hpa, List.length_nil, Nat.zero_add] at h
  have ht2 : ∀ W, Calls Try.prog 36 #[.string ⟨p.toArray⟩, .int .i64 (pa.length : Int), .int .i64 ((f.length : Int) - (k : Int))] W (RetTake y (p.length : Int) 0 W) := fun W => by
    have h := vrow_back pa [] p y (pa.length : Int) ((f.length : Int) - (k : Int)) (by rw [hpab, hpb, List.append_nil]) rfl (by rw [hyl]; omega) (by omega) (by omega) hvy W
    rwa [← hpb, ← List.length_append, ← hpab] at h
  have ht3 : ∀ W, Calls Try.prog 36 #[.string ⟨p.toArray⟩, .int .i64 0, .int .i64 ((f.length : Int) + 1)] W (RetTake [] 0 2 W) := fun W =>
    vrow_more [] p f 0 ((f.length : Int) + 1) (by rw [hp]; rfl) rfl rfl (by omega) (by omega) hvf W
  have hab := str_add (P := Try.prog) pa pb p hpab.symm (by omega)
  obtain ⟨i0, hi0, hz0, hz1, hz2⟩ := info_parts info_u64
  obtain ⟨A3, hsl, hrd⟩ := slice_from (P := Try.prog) 22 40 i0 Try.underlying22 (by kernel_rfl) hi0 hz1 A f.length cap k (by omega) (by omega)
  have hPA : ∀ W, Rd W A (us f) → Calls Try.prog 31 #[.slice A k cap] W fun e w' => e = .returned (.string ⟨pa.toArray⟩) ∧ Below W.heap.size W w' := fun W hW => by
    rw [hpa]
    exact vrow_len A x k cap W hxl (by rw [hx]; exact hW.take k) (by omega) hvx
  have hPB : ∀ W, Rd W A (us f) → Calls Try.prog 31 #[.slice A3 (f.length - k) (cap - k)] W fun e w' => e = .returned (.string ⟨pb.toArray⟩) ∧ Below W.heap.size W w' := fun W hW => by
    rw [hpb]
    have := hrd W (us f) (us_len f) hW
    rw [us, ← List.map_drop] at this
    exact vrow_len A3 y (f.length - k) (cap - k) W hyl (by rw [hy]; exact this) (by omega) hvy
  have hk0 : 0 ≤ (k : Int) := by omega
  have hkc : (k : Int) ≤ (cap : Int) := by omega
  have HPICK := Lib.hid hpick
  have HROW := Lib.hid hrow
  have HT1 := Lib.hid ht1
  have HT2 := Lib.hid ht2
  have HT3 := Lib.hid ht3
  have HPA := Lib.hid hPA
  have HPB := Lib.hid hPB
  have HP := Lib.hid hp
  have HV := Lib.hid hvf
  have hus : ([] : List Value) ++ us x ++ us y = us f := by rw [List.nil_append, ← us_append, hxy]
  have hnums : ∀ W A7 c7, Rd W A7 (us f) → Rd W A (us f) → Calls Try.prog 25 #[.slice A7 (x.length + y.length) c7, .slice A f.length cap] W (fun e w' => e = .returned (.bool true) ∧ ∃ n, w' = W.drewN n) := fun W A7 c7 h7 hA => by
    have h := nums_any A7 A f f c7 cap W h7 hA (by omega)
    rw [show x.length + y.length = f.length by rw [← hxy, List.length_append]]
    simpa using h
  have HUS := Lib.hid hus
  have HN := Lib.hid hnums
  clear hus hnums
  have HXY := Lib.hid hxy
  have hx40 : x.length ≤ 40 := by omega
  have hy40 : y.length ≤ 40 := by omega
  have HXL := Lib.hid hxl
  have HYL := Lib.hid hyl
  clear hpick hrow ht1 ht2 ht3 hPA hPB hpa hpb hrd hi0 hz0 hz1 hz2 hp hvf hxy hxl hyl hvx hvy hpab hx hy
  go_enter Try.func13, Try.ntmps13
  go_wp2_with fail
  refine (awake1_any _).mono ?_
  rintro e w1 ⟨rfl, hb1⟩
  go_wp2_with fail
  rw [show ((f.length : Int) + 1) = ((f.length + 1 : Nat) : Int) by omega]
  refine (HPICK.out _).mono ?_
  rintro e w2 ⟨rfl, rfl⟩
  go_wp2_with fail
  refine (HROW.out _ (hrf0.below hb1)).mono ?_
  rintro e w2 ⟨rfl, hb2⟩
  go_wp2_with fail
  refine (HT1.out _).mono ?_
  rintro e w3 ⟨A1, c1, rfl, hr3, hc3, hm3, hb3⟩
  go_wp2_with fail
  refine (HT2.out _).mono ?_
  rintro e w4 ⟨A2, c2, rfl, hr4, hc4, hm4, hb4⟩
  have hb14 := bl_step (bl_step (bl_step hb1 hb2) hb3) hb4
  have hrf4 := hrf0.below hb14
  have hr34 := hr3.below hb4
  clear hb1 hb2 hb3 hb4 hr3 hrf0
  go_wp2
  go_loopw [15, 16] (fun x i wr => VRowRel f w4 x i wr) (fun _ i _ => f.length - (intOf i).toNat)
  case atStart => exact ⟨0, Nat.zero_le _, rfl, by simp [rowB], bl_refl _⟩
  case round =>
    obtain ⟨i, hi, rfl, rfl, hb⟩ := hrel
    by_cases hlt : i < f.length
    · obtain ⟨b, off, rfl, _, hcell⟩ := (hrf4.below hb).us_at (k := i) hlt
      obtain ⟨z, hz⟩ : ∃ z, z = f[i]?.getD 0 := ⟨_, rfl⟩
      have hz64 : z < 18446744073709551616 := by rw [hz, List.getElem?_eq_getElem hlt]; exact HV.out _ (List.getElem_mem hlt)
      rw [← hz] at hcell
      have hzl := vB_len z
      obtain ⟨sl, hsl⟩ : ∃ sl, sl = (rowB (f.take i)).length := ⟨_, rfl⟩
      have hsl2 : sl ≤ 400 := by rw [hsl]; have := rowB_len (f.take i); rw [List.length_take] at this; omega
      have hcall := fun W => vlen_any z W hz64
      rw [← hsl]
      have HZ := Lib.hid hz
      have HSL := Lib.hid hsl
      obtain ⟨zl, hzl0⟩ : ∃ zl, zl = (vB z).length := ⟨_, rfl⟩
      rw [← hzl0] at hcall hzl
      have HZL := Lib.hid hzl0
      have HC := Lib.hid hcall
      clear hz hsl hcall hzl0
      go_wp2_with fail
      refine (HC.out _).mono ?_
      rintro e w5 ⟨rfl, rfl⟩
      go_wp2
      exact ⟨vrow_rel hlt HZ.out HSL.out (by rw [HZL.out]) hb, by simp [intOf]; omega⟩
    · obtain rfl : i = f.length := by omega
      rw [List.take_length, ← HP.out]
      go_wp2_with fail
      refine (HT3.out _).mono ?_
      rintro e w5 ⟨A5, c5, rfl, hr5, hc5, hm5, hb5⟩
      have hb45 := bl_step hb hb5
      have hrf5 := hrf4.below hb45
      have hx5 := hr34.below hb45
      have hy5 := hr4.below hb45
      have hb15 := bl_step hb14 hb45
      clear hb hb5 hb45 hrf4 hr34 hr4 hb14
      go_wp2_with fail
      go_region_held3 (fun w' => Below w5.heap.size w5 w')
        (first | assumption | exact bl_refl _ | exact bl_drewN (bl_refl _) 1 | (refine bl_step ?_ hB; assumption) | (refine bl_step ?_ hA; assumption) | (refine Below.trans ?_ hb6; assumption) | (refine Below.trans ?_ hb7; assumption) | (refine bl_drewN ?_ _; assumption))
        (first
          | (go_at_call 31; with_reducible refine (HPA.out _ ?_).mono ?_; exact hrf5.below ‹Below w5.heap.size w5 _›; rintro e wA ⟨rfl, hA⟩)
          | (go_at_call 31; with_reducible refine (HPB.out _ ?_).mono ?_; exact hrf5.below ‹Below w5.heap.size w5 _›; rintro e wB ⟨rfl, hB⟩)
          | (refine step_append_rd (by rfl) _ _ (by rfl) w5.heap.size (.slice none 0 0) 0 [] (by rfl) (World.ownsRow_nil _ _ _ _) (‹Below w5.heap.size w5 _›).size A1 c1 x (by rfl) (hx5.below ‹Below w5.heap.size w5 _›) (by omega) ?_; intro v6 w6 ho6 hb6)
          | (refine step_append_rd (by rfl) _ _ (by rfl) w5.heap.size _ _ _ (by rfl) ho6 (‹Below w5.heap.size w5 _›).size A2 c2 y (by rfl) (hy5.below ‹Below w5.heap.size w5 _›) (by omega) ?_; intro v7 w7 ho7 hb7; obtain ⟨A7, c7, rfl⟩ := own_form ho7; have hr7 := (Rd.of_own ho7).1; rw [HUS.out] at hr7)
          | (go_at_call 25; with_reducible refine (HN.out _ A7 c7 ?_ ?_).mono ?_; exact hr7; exact hrf5.below ‹Below w5.heap.size w5 _›; rintro e wC ⟨rfl, nC, rfl⟩))
      go_wp2
      go_ret
      exact ⟨rfl, bl_step hb15 (by assumption)⟩
end Go.Proofs.Ytdnngacamdohiaa
