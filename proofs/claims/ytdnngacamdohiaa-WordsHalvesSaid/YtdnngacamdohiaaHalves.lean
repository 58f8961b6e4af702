/-
  WordsHalves: the walk of the law. Conditions: a number of 64 bits, eight bytes.
-/
import Derived.Test.YtdnngacamdohiaaWordsF
namespace Go.Proofs.Ytdnngacamdohiaa
open Go.RowKit

theorem leB_add (v a : Nat) : ∀ b, leB v (a + b) = leB v a ++ leB (v / 256 ^ a) b := by
  intro b
  induction b with
  | zero => simp [leB_zero]
  | succ b ih => rw [← Nat.add_assoc, leB_succ, ih, leB_succ, List.append_assoc, Nat.div_div_eq_div_mul, Nat.pow_add]
theorem leB_mod (v a : Nat) : leB (v % 256 ^ a) a = leB v a := by
  have h := leB_leV (leB v a)
  rwa [leB_len, leV_leB] at h
theorem halves_add (v : Nat) : leB (v % 4294967296) 4 ++ leB (v / 4294967296) 4 = leB v 8 := by
  have h1 := leB_add v 4 4
  have h2 := leB_mod v 4
  rw [show (256 : Nat) ^ 4 = 4294967296 by decide] at h1 h2
  rw [h2, ← h1]

theorem rev_step (l : List UInt8) (j : Nat) (h1 : 1 ≤ j) (hj : j ≤ l.length) : bs (l.drop (j - 1)).reverse = bs (l.drop j).reverse ++ [Value.int .u8 ((l[j - 1]?.getD 0).toNat : Int)] := by
  rw [List.drop_eq_getElem_cons (by omega), List.reverse_cons, bs_append, show j - 1 + 1 = j by omega, List.getElem?_eq_getElem (by omega)]
  rfl
theorem leV_byte (l : List UInt8) (k : Nat) (h : k < l.length) : leV l / 256 ^ k % 256 = (l[k]?.getD 0).toNat := by
  have e := leB_leV l
  have h2 : (leB (leV l) l.length)[k]? = l[k]? := by rw [e]
  rw [List.getElem?_eq_getElem h] at h2 ⊢
  rw [List.getElem?_eq_getElem (by rw [leB_len]; exact h)] at h2
  simp only [leB, List.getElem_map, List.getElem_range, Option.some.injEq] at h2
  rw [Option.getD_some, ← h2, UInt8.toNat_ofNat']
theorem rev_val (l : List UInt8) (k : Nat) (h : k < l.length) : leV (l.take (k + 1)).reverse = (l[k]?.getD 0).toNat + 256 * leV (l.take k).reverse := by
  rw [List.take_succ_eq_append_getElem h, List.reverse_append, List.getElem?_eq_getElem h]
  rfl
theorem rev_lt (l : List UInt8) (k : Nat) (h : k < 8) : leV (l.take k).reverse < 72057594037927936 := by
  have := leV_lt (l.take k).reverse
  have h2 : 256 ^ (l.take k).reverse.length ≤ 256 ^ 7 := Nat.pow_le_pow_right (by decide) (by rw [List.length_reverse, List.length_take]; omega)
  omega
theorem leV8_lt (l : List UInt8) (h : l.length = 8) : leV l < 18446744073709551616 := by
  have := leV_lt l
  rwa [h] at this
theorem take_one8 (l : List UInt8) (h : l.length = 8) (W : World) :
    Calls Try.prog 23 #[.string ⟨l.toArray⟩, .int .i64 0, .int .i64 1] W (RetTake [leV l] 8 0 W) := by
  have hs : (ByteArray.mk l.toArray).size = 8 := h
  have hE : takeE (ByteArray.mk l.toArray).size 0 1 8 = 0 := takeE_ok (by omega) (by rw [hs]; decide)
  have h2 := take_any ⟨l.toArray⟩ 0 1 W (by rw [hs]; decide) (by omega) (by omega)
  rw [tkL, tkN, hE] at h2
  have e : takeL l 0 8 1 = [leV l] := by
    simp only [takeL, List.range_one, List.map_cons, List.map_nil, Nat.zero_mul, Nat.add_zero, List.drop_zero]
    rw [List.take_of_length_le (by omega)]
  simp only [if_true] at h2
  rw [show takeL (ByteArray.mk l.toArray).data.toList (0 : Int).toNat 8 (1 : Int).toNat = [leV l] from e] at h2
  exact h2

def HvRel1 (l : List UInt8) (w : World) (b i : Value) (wr : World) : Prop :=
  ∃ j, j ≤ l.length ∧ i = .int .i64 ((j : Int) - 1) ∧ wr.ownsRow w.heap.size 5 1 b (l.length - j) (bs (l.drop j).reverse) ∧ Below w.heap.size w wr
def HvRel2 (l : List UInt8) (x i : Value) : Prop := ∃ k : Nat, k ≤ 8 ∧ i = .int .i64 (k : Int) ∧ x = .int .u64 ((leV (l.take k).reverse : Nat) : Int)

theorem halves_step (x k a b : Nat) (ha : a < 72057594037927936) (hb : x / 256 ^ k % 256 = b) :
    IntKind.u64.wrap (IntKind.u64.wrap ((a : Int) * 256) + ((x : Int) / 2 ^ (8 * k)).tmod 256) = ((b + 256 * a : Nat) : Int) := by
  have e : ((x : Int) / 2 ^ (8 * k)) = ((x / 256 ^ k : Nat) : Int) := by rw [Int.pow_mul]; simp
  have e2 : (((x / 256 ^ k : Nat) : Int)).tmod 256 = (b : Int) := by
    rw [Int.tmod_eq_emod_of_nonneg (Int.natCast_nonneg _), ← hb]; simp
  have hb2 : b < 256 := by rw [← hb]; exact Nat.mod_lt _ (by decide)
  rw [e, e2, IntKind.wrap_u64, IntKind.wrap_u64]
  omega

set_option maxHeartbeats 1000000 in
theorem halves_walk (v : Nat) (xs : Array Value) (l : List UInt8) (w : World) (hv : v < 18446744073709551616) (hx : xs.toList = bs l) (hl : l.length = 8) :
    Calls Try.prog 6 #[.int .u64 (v : Int), .agg xs] w (RetTrue w) := by
  go_enter Try.func6, Try.ntmps6
  go_wp2_with fail
  have hd0 : Rd (w.alloc (.cells xs 41)) (some ⟨w.heap.size, 0, none⟩) (bs l) := Rd.lit w xs _ _ hx
  obtain ⟨w0, hw0⟩ : ∃ w0, w0 = w.alloc (.cells xs 41) := ⟨_, rfl⟩
  have hb0 : Below w.heap.size w w0 := by rw [hw0]; exact bl_alloc (bl_refl w) _
  rw [← hw0] at hd0 ⊢
  clear hw0 hx
  obtain ⟨g, hg⟩ : ∃ g, g = w.heap.size := ⟨_, rfl⟩
  rw [← hg] at hd0 ⊢
  have HG := Lib.hid hg
  clear hg
  refine (awake2_any _).mono ?_
  rintro e w1 ⟨rfl, hb1⟩
  go_wp2_with fail
  refine (put_any _ [v] 1 _ (Rd.lit w1 _ _ _ rfl) (by simp) (by simpa using hv)).mono ?_
  rintro e w2 ⟨rfl, hb2⟩
  rw [putB_one]
  have hadd0 := halves_add v
  obtain ⟨q, hq⟩ : ∃ q, q = leB v 8 := ⟨_, rfl⟩
  have hql : q.length = 8 := by rw [hq, leB_len]
  obtain ⟨ra, hra⟩ : ∃ ra, ra = leB (v % 4294967296) 4 := ⟨_, rfl⟩
  obtain ⟨rb, hrb⟩ : ∃ rb, rb = leB (v / 4294967296) 4 := ⟨_, rfl⟩
  have hpa : ∀ W, Calls Try.prog 18 #[.int .u32 ((v : Int) % 4294967296)] W fun e w' => e = .returned (.string ⟨ra.toArray⟩) ∧ Below W.heap.size W w' := fun W => by
    rw [hra, show ((v : Int) % 4294967296) = ((v % 4294967296 : Nat) : Int) by simp]
    exact puthalf_any _ W (by omega)
  have hpb : ∀ W, Calls Try.prog 18 #[.int .u32 ((v : Int) / 4294967296)] W fun e w' => e = .returned (.string ⟨rb.toArray⟩) ∧ Below W.heap.size W w' := fun W => by
    rw [hrb, show ((v : Int) / 4294967296) = ((v / 4294967296 : Nat) : Int) by simp]
    exact puthalf_any _ W (by omega)
  rw [← hra, ← hrb, ← hq] at hadd0
  rw [← hq]
  have hadd := str_add (P := Try.prog) ra rb q hadd0 (by omega)
  have hqn : ((q.length : Int) != 8) = false := by rw [hql]; rfl
  have HPA := Lib.hid hpa
  have HPB := Lib.hid hpb
  clear hpa hpb hadd0 hq hra hrb hql
  go_wp2_with fail
  refine (HPA.out _).mono ?_
  rintro e w3 ⟨rfl, hb3⟩
  go_wp2_with fail
  refine (HPB.out _).mono ?_
  rintro e w4 ⟨rfl, hb4⟩
  have hb04 := bl_step (bl_step (bl_step (bl_alloc hb1 (.cells #[.int .u64 (v : Int)] 40)) hb2) hb3) hb4
  have hd4 := hd0.below hb04
  have hend := bl_step hb0 hb04
  clear hb0 hb1 hb2 hb3 hb4 hb04 hd0 HPA HPB
  obtain ⟨i0, hi, hz0, hz1, hz2⟩ := info_parts info_u8
  have hlI : (l.length : Int) = 8 := by omega
  have HL := Lib.hid hl
  clear hl hlI
  go_wp2
  go_loopw [7, 8] (fun b i wr => HvRel1 l w4 b i wr) (fun _ i _ => (intOf i + 1).toNat)
  case atStart => exact ⟨l.length, Nat.le_refl _, by rw [HL.out]; rfl, by rw [Nat.sub_self, List.drop_length]; exact World.ownsRow_nil _ _ _ _, bl_refl _⟩
  case round =>
    obtain ⟨j, hj, rfl, ho, hb⟩ := hrel
    have hj8 : j ≤ 8 := by rw [← HL.out]; exact hj
    by_cases h1 : 1 ≤ j
    · obtain ⟨b, off, e, hgl, hcell⟩ := (hd4.below hb).bs_at (k := j - 1) (by rw [HL.out]; omega)
      injection e with e
      injection e with e1 e2
      subst e1; subst e2
      rw [Nat.zero_add] at hcell
      have hsz := hb.size
      have hrs := rev_step l j h1 hj
      obtain ⟨x, hx⟩ : ∃ x, x = (l[j - 1]?.getD 0).toNat := ⟨_, rfl⟩
      rw [← hx] at hcell hrs
      have HRS := Lib.hid hrs
      clear hx hrs
      go_wp2_with (at_builtin; refine wpList_append_own _ rfl _ _ 43 rfl w4.heap.size 5 i0 (.int .u8 0) 1 1 Try.underlying43 hi hz0 hz1 hz2 rfl (by decide) _ _ _ rfl (ho.alloc _) ⟨wr.heap.size, 0, none⟩ 1 1 [.int .u8 (x : Int)] rfl rfl ?c1 ?c2 ?c3 ?c4 ?c5 ?_)
      case c2 => first | rfl | trivial | (intro u hu; simp at hu; subst hu; rfl)
      case c3 => have := HL.out; unfold maxLen; omega
      case c4 => have := HL.out; omega
      case c5 => first | omega | (simp; omega)
      intro v' w5 ho' hg5 _
      have hb5 : Below w4.heap.size w4 w5 := (hb.alloc (by omega) _).grown hg5 (by simp; omega) (fun q hq => (ho.lt q hq).1)
      clear ho hg5 hb hsz hcell
      go_wp2
      go_roundw
      case rel => exact ⟨j - 1, by omega, by congr 1; omega, by rw [show bs (l.drop (j - 1)).reverse = _ from HRS.out, show l.length - (j - 1) = l.length - j + 1 by omega]; exact ho', hb5⟩
      case measure => simp [intOf]; omega
    · obtain rfl : j = 0 := by omega
      obtain ⟨A1, c1, rfl⟩ := own_form ho
      have hro := (Rd.of_own ho).1
      rw [List.drop_zero] at hro
      obtain ⟨lr, hlr⟩ : ∃ lr, lr = l.reverse := ⟨_, rfl⟩
      rw [← hlr] at hro
      have hlr8 : lr.length = 8 := by rw [hlr, List.length_reverse]; exact HL.out
      have hcv := fun (W : World) (hW : Rd W (some ⟨g, 0, none⟩) (bs l)) => conv_back (P := Try.prog) W 43 9 5 (some ⟨g, 0, none⟩) 8 l Try.underlying43 Try.underlying5 Try.underlying9 hW
      have hcw := fun (W : World) (hW : Rd W A1 (bs lr)) => conv_back (P := Try.prog) W 43 9 5 A1 c1 lr Try.underlying43 Try.underlying5 Try.underlying9 hW
      rw [HL.out] at hcv
      rw [hlr8] at hcw
      have hl0 : l.length - 0 = 8 := by rw [HL.out]
      rw [hl0] at *
      have hcv1 := hcv wr (hd4.below hb)
      have hT1 := fun W => take_one8 l HL.out W
      have hT2 := fun W => take_one8 lr hlr8 W
      have HT1 := Lib.hid hT1
      have HT2 := Lib.hid hT2
      have HCW := Lib.hid hcw
      have HLR := Lib.hid hlr
      have HL0 := Lib.hid hl0
      clear hT1 hT2 hcw hlr hlr8 hl0 hcv ho
      go_wp2_with fail
      refine (HT1.out _).mono ?_
      rintro e w5 ⟨A5, c5, rfl, hr5, hc5, hm5, hb5⟩
      have hcw5 := HCW.out w5 (hro.below hb5)
      go_wp2_with fail
      refine (HT2.out _).mono ?_
      rintro e w6 ⟨A6, c6, rfl, hr6, hc6, hm6, hb6⟩
      have hb46 := bl_step (bl_step hb hb5) hb6
      have hend6 := bl_step hend hb46
      obtain ⟨b5, o5, rfl, _, hcell5⟩ := (hr5.below hb6).us_at (k := 0) (by simp)
      obtain ⟨b6, o6, rfl, _, hcell6⟩ := hr6.us_at (k := 0) (by simp)
      rw [Nat.add_zero] at hcell5 hcell6
      have hv5 := leV8_lt l HL.out
      have hwb := fun k hk => leV_byte l k hk
      have hwv := fun k hk => rev_val l k hk
      have hwl := fun k hk => rev_lt l k hk
      obtain ⟨x5, hx5⟩ : ∃ x5, x5 = leV l := ⟨_, rfl⟩
      obtain ⟨x6, hx6⟩ : ∃ x6, x6 = leV lr := ⟨_, rfl⟩
      rw [show ([leV l] : List Nat)[0]?.getD 0 = x5 from hx5.symm] at hcell5
      rw [show ([leV lr] : List Nat)[0]?.getD 0 = x6 from hx6.symm] at hcell6
      rw [← hx5] at hv5
      simp only [← hx5] at hwb
      have HWB := Lib.hid hwb
      have HWV := Lib.hid hwv
      have HWL := Lib.hid hwl
      have HX6 := Lib.hid hx6
      clear hb hb5 hb6 hb46 hend hr5 hr6 hd4 hro hcw5 hcv1 hx5 hx6 hwb hwv hwl
      go_wp2
      go_loop [15, 16] (fun x i => HvRel2 l x i) (fun _ i => 8 - (intOf i).toNat)
      case atStart => exact ⟨0, by omega, rfl, by simp [leV]⟩
      case round =>
        obtain ⟨k, hk, rfl, rfl⟩ := hrel
        by_cases hlt : k < 8
        · go_wp2
          exact ⟨⟨k + 1, by omega, by go_num, by rw [halves_step x5 k _ _ (HWL.out k hlt) (HWB.out k (by rw [HL.out]; exact hlt)), HWV.out k (by rw [HL.out]; exact hlt)]⟩, by simp [intOf]; omega⟩
        · obtain rfl : k = 8 := by omega
          go_wp2
          go_ret
          refine ⟨?_, hend6⟩
          have e : leV (l.take 8).reverse = x6 := by rw [List.take_of_length_le (by rw [HL.out]; omega), HX6.out, HLR.out]
          simp [e]
end Go.Proofs.Ytdnngacamdohiaa
