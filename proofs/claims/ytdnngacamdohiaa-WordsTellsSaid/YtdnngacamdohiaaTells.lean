/-
  WordsTells: the walk of the law. Conditions: the slice reads as numbers of 64 bits, integers that fit.
-/
import Derived.Test.YtdnngacamdohiaaWordsF
import Derived.Test.YtdnngacamdohiaaLater
import Derived.Deep.RegionHeld3
import Derived.Deep.DeepCutAuto
namespace Go.Proofs.Ytdnngacamdohiaa
open Go.RowKit

/-- The counter of a loop over n things; below the heap's size nothing has turned. -/
def CntRel (n : Nat) (w : World) (i : Value) (wr : World) : Prop := ∃ k : Nat, k ≤ n ∧ i = .int .i64 (k : Int) ∧ Below w.heap.size w wr

theorem Rd.at_of {w : World} {A : Option Addr} {α : Type} {f : α → Value} {l : List α} (h : Rd w A (l.map f)) {k : Nat} (hk : k < l.length) :
    ∃ b off, A = some ⟨b, off, none⟩ ∧ b < w.heap.size ∧ w.cell? ⟨b, off + k, none⟩ = some (f l[k]) := by
  obtain ⟨b, off, u, e, hb, hu, hc⟩ := h.at_ (k := k) (by rw [List.length_map]; exact hk)
  rw [List.getElem?_map, List.getElem?_eq_getElem hk] at hu
  cases hu
  exact ⟨b, off, e, hb, hc⟩

def i64v (z : Int) : Value := .int .i64 z

theorem tkL_len (T : ByteArray) (I M : Int) (h : T.size ≤ 1000) : (tkL T I M 8).length ≤ 9223372036854775807 := by
  unfold tkL
  split
  · rename_i h0
    rw [takeL_len]
    unfold takeE at h0
    split at h0
    · cases h0
    · split at h0
      · cases h0
      · omega
  · simp

def TellsCut (S1 : ByteArray) (p : List UInt8) (w : World) (s56 s57 s58 : Value) (wx : World) : Prop :=
  ∃ g, s56 = .slice (some ⟨g, 0, none⟩) 2 2 ∧ s57 = .int .i64 2 ∧ s58 = .int .i64 0 ∧ Rd wx (some ⟨g, 0, none⟩) ([S1, ⟨p.toArray⟩].map Value.string) ∧ Below w.heap.size w wx
theorem tells_cut {S1 : ByteArray} {p : List UInt8} {w wA : World} {t : TypeId} (h : Below w.heap.size w (wA.alloc (.cells #[.string S1, .string ⟨p.toArray⟩] t))) :
    TellsCut S1 p w (.slice (some ⟨wA.heap.size, 0, none⟩) 2 2) (.int .i64 2) (.int .i64 0) (wA.alloc (.cells #[.string S1, .string ⟨p.toArray⟩] t)) :=
  ⟨_, rfl, rfl, rfl, Rd.lit _ _ _ _ rfl, h⟩

set_option maxRecDepth 100000 in
set_option maxHeartbeats 4000000 in
theorem tells_walk (A : Option Addr) (l : List Nat) (cap : Nat) (v : Nat) (s : ByteArray) (at_ n : Int) (w : World) (hr : Rd w A (us l)) (hc : l.length ≤ cap) (hm : cap ≤ 9223372036854775807) (hv : ∀ x ∈ l, x < 18446744073709551616)
    (hv32 : v < 4294967296) (hs : s.size ≤ 9223372036854775807) (ha1 : -9223372036854775808 ≤ at_) (ha2 : at_ ≤ 9223372036854775807) (hn1 : -9223372036854775808 ≤ n) (hn2 : n ≤ 9223372036854775807) :
    Calls Try.prog 3 #[.slice A l.length cap, .int .u32 (v : Int), .string s, .int .i64 at_, .int .i64 n] w (RetTrue w) := by
  obtain ⟨f, hf⟩ : ∃ f, f = l.take 40 := ⟨_, rfl⟩
  have hminf := min_is (P := Try.prog) l.length f.length 40 (by rw [hf, List.length_take]; omega)
  have hf40 : f.length ≤ 40 := by rw [hf, List.length_take]; omega
  have hfl : f.length ≤ l.length := by rw [hf, List.length_take]; omega
  have hvf : ∀ x ∈ f, x < 18446744073709551616 := fun x hx => hv x (List.mem_of_mem_take (by rw [← hf]; exact hx))
  have hrf0 : Rd w A (us f) := by rw [hf]; exact hr.take 40
  clear hf hr hv
  obtain ⟨m, hm1⟩ : ∃ m, m = min s.size 100 := ⟨_, rfl⟩
  have hmins := min_is (P := Try.prog) s.size m 100 (by omega)
  have hm100 : m ≤ 100 := by omega
  have hms : m ≤ s.size := by omega
  have hm0 : 0 ≤ (m : Int) := by omega
  have hmsI : (m : Int) ≤ (s.size : Int) := by omega
  clear hm1
  obtain ⟨S1, hS1⟩ : ∃ S1, S1 = s.extract 0 m := ⟨_, rfl⟩
  have hS1l : S1.size ≤ 1000 := by rw [hS1, ByteArray.size_extract]; omega
  have hS1x : s.extract 0 m = S1 := hS1.symm
  clear hS1
  obtain ⟨p, hp⟩ : ∃ p, p = putB 8 f := ⟨_, rfl⟩
  have hpl : p.length ≤ 1000 := by rw [hp, putB_len]; omega
  have hput : ∀ W, Rd W A (us f) → Calls Try.prog 16 #[.slice A f.length cap] W fun e w' => e = .returned (.string ⟨p.toArray⟩) ∧ Below W.heap.size W w' := fun W hW => by
    rw [hp]; exact put_any A f cap W hW (by omega) hvf
  have hrput : ∀ W, Rd W A (us f) → Calls Try.prog 17 #[.slice A f.length cap] W fun e w' => e = .returned (.string ⟨p.toArray⟩) ∧ Below W.heap.size W w' := fun W hW => by
    rw [hp]; exact refput_any A f cap W hW (by omega) hvf
  obtain ⟨r, hr4⟩ : ∃ r, r = leB v 4 := ⟨_, rfl⟩
  have hph := fun W => puthalf_any v W hv32
  have hrh := fun W => refputhalf_any v W hv32
  rw [← hr4] at hph hrh
  clear hp hr4 hvf
  have HPUT := Lib.hid hput
  have HRPUT := Lib.hid hrput
  have HPH := Lib.hid hph
  have HRH := Lib.hid hrh
  clear hput hrput hph hrh
  go_enter Try.func3, Try.ntmps3
  go_wp2_with fail
  refine (awake2_any _).mono ?_
  rintro e w1 ⟨rfl, hb1⟩
  go_wp2_with fail
  refine (HPUT.out _ (hrf0.below hb1)).mono ?_
  rintro e w2 ⟨rfl, hb2⟩
  go_wp2_with fail
  refine (HRPUT.out _ (hrf0.below (bl_step hb1 hb2))).mono ?_
  rintro e w3 ⟨rfl, hb3⟩
  go_wp2_with fail
  refine (HPH.out _).mono ?_
  rintro e w4 ⟨rfl, hb4⟩
  go_wp2_with fail
  refine (HRH.out _).mono ?_
  rintro e w5 ⟨rfl, hb5⟩
  have hb05 := bl_step (bl_step (bl_step (bl_step hb1 hb2) hb3) hb4) hb5
  have hrf5 := hrf0.below hb05
  clear hb1 hb2 hb3 hb4 hb5 HPUT HPH HRH hrf0
  go_upto_region 5 with fail
  go_cut [56, 57, 58] (fun s56 s57 s58 wx => TellsCut S1 p w5 s56 s57 s58 wx)
  case first =>
    go_region_held3 (fun w' => Below w5.heap.size w5 w')
      (first | assumption | exact bl_refl _ | exact bl_drewN (bl_refl _) 1 | (refine bl_alloc ?_ _; assumption) | (refine bl_step ?_ hA; assumption))
      (first | (go_at_call 17; with_reducible refine (HRPUT.out _ ?_).mono ?_; exact hrf5.below ‹Below w5.heap.size w5 _›; rintro e wA ⟨rfl, hA⟩))
    all_goals (go_wp2_with fail; go_meet; exact tells_cut ‹_›)
  case rest =>
    obtain ⟨g, rfl, rfl, rfl, hrS, hb6⟩ := hcut
    have HS := Lib.hid hpl
    clear HRPUT hpl hS1x
    go_wp2_with fail
    go_loopw [58] (fun i wr => CntRel 2 wc i wr) (fun i _ => 2 - (intOf i).toNat)
    case atStart => exact ⟨0, by omega, rfl, bl_refl _⟩
    case round =>
      obtain ⟨k, hk, rfl, hb⟩ := hrel
      by_cases hlt : k < 2
      · obtain ⟨b, off, e, hgl, hcell⟩ := (hrS.below hb).at_of (k := k) (by simpa using hlt)
        injection e with e
        injection e with e1 e2
        subst e1; subst e2
        rw [Nat.zero_add] at hcell
        obtain ⟨T, hT⟩ : ∃ T, T = ([S1, ⟨p.toArray⟩] : List ByteArray)[k]'(by simpa using hlt) := ⟨_, rfl⟩
        have hTl : T.size ≤ 1000 := by
          rw [hT]
          match k, hlt with
          | 0, _ => exact hS1l
          | 1, _ => exact HS.out
        rw [← hT] at hcell
        clear hT
        obtain ⟨w8, rfl⟩ : ∃ w8 : World, w8 = wr := ⟨_, rfl⟩
        go_wp2_with fail
        refine (pick2_any at_ 110 _ ha1 ha2 (by omega) (by omega)).mono ?_
        rintro e w9 ⟨rfl, rfl⟩
        have hp110 := pickN_lt at_ 110 (by omega)
        obtain ⟨i2, hi2⟩ : ∃ i2, i2 = pickN at_ 110 := ⟨_, rfl⟩
        rw [← hi2] at hp110 ⊢
        clear hi2
        go_wp2_with fail
        have hrI := Rd.lit w8 #[.int .i64 at_, .int .i64 (i2 : Int)] 3 (([at_, (i2 : Int)]).map (Value.int .i64)) rfl
        obtain ⟨w10, hw10⟩ : ∃ w10, w10 = w8.alloc (.cells #[.int .i64 at_, .int .i64 (i2 : Int)] 3) := ⟨_, rfl⟩
        have hb10 : Below w8.heap.size w8 w10 := by rw [hw10]; exact bl_alloc (bl_refl w8) _
        rw [← hw10] at hrI ⊢
        clear hw10
        obtain ⟨g2, hg2⟩ : ∃ g2, g2 = w8.heap.size := ⟨_, rfl⟩
        rw [← hg2] at hrI ⊢
        clear hg2
        have hbw : Below wc.heap.size wc w10 := bl_step hb hb10
        clear hb hb10
        go_loopw [67] (fun i wr => CntRel 2 w10 i wr) (fun i _ => 2 - (intOf i).toNat)
        case atStart => exact ⟨0, by omega, rfl, bl_refl _⟩
        case round =>
          obtain ⟨k2, hk2, rfl, hbi⟩ := hrel
          by_cases hlt2 : k2 < 2
          · obtain ⟨b, off, e, hgl2, hcell2⟩ := (hrI.below hbi).at_of (k := k2) (by simpa using hlt2)
            injection e with e
            injection e with e1 e2
            subst e1; subst e2
            rw [Nat.zero_add] at hcell2
            obtain ⟨I, hI⟩ : ∃ I, I = ([at_, (i2 : Int)] : List Int)[k2]'(by simpa using hlt2) := ⟨_, rfl⟩
            have hIl : -9223372036854775808 ≤ I ∧ I ≤ 9223372036854775807 := by
              rw [hI]
              match k2, hlt2 with
              | 0, _ => exact ⟨ha1, ha2⟩
              | 1, _ => exact ⟨by show _ ≤ (i2 : Int); omega, by show (i2 : Int) ≤ _; omega⟩
            rw [← hI] at hcell2
            clear hI
            obtain ⟨hI1, hI2⟩ := hIl
            have hh1 := fun W => takehalf_any T I W (by omega) hI2
            have hh2 := fun W => reftakehalf_any T I W (by omega) hI2
            obtain ⟨v3, hv3⟩ : ∃ v3, v3 = thV T I := ⟨_, rfl⟩
            obtain ⟨n3, hn3⟩ : ∃ n3, n3 = tkN T I 1 4 := ⟨_, rfl⟩
            obtain ⟨e3, he3⟩ : ∃ e3, e3 = takeE T.size I 1 4 := ⟨_, rfl⟩
            simp only [← hv3, ← hn3, ← he3] at hh1 hh2
            have HH1 := Lib.hid hh1
            have HH2 := Lib.hid hh2
            clear hh1 hh2 hv3 hn3 he3
            obtain ⟨w11, rfl⟩ : ∃ w11 : World, w11 = wr := ⟨_, rfl⟩
            go_wp2_with fail
            refine (HH1.out _).mono ?_
            rintro e w12 ⟨rfl, hb12⟩
            go_wp2_with fail
            refine (HH2.out _).mono ?_
            rintro e w13 ⟨rfl, hb13⟩
            go_wp2_with fail
            refine (pick2_any n 14 _ hn1 hn2 (by omega) (by omega)).mono ?_
            rintro e w14 ⟨rfl, rfl⟩
            have hp14 := pickN_lt n 14 (by omega)
            obtain ⟨m2, hm2⟩ : ∃ m2, m2 = pickN n 14 := ⟨_, rfl⟩
            rw [← hm2] at hp14 ⊢
            clear hm2 HH1 HH2
            go_wp2_with fail
            have hrM := Rd.lit w13 #[.int .i64 n, .int .i64 (m2 : Int)] 3 (([n, (m2 : Int)]).map (Value.int .i64)) rfl
            obtain ⟨w15, hw15⟩ : ∃ w15, w15 = w13.alloc (.cells #[.int .i64 n, .int .i64 (m2 : Int)] 3) := ⟨_, rfl⟩
            have hb15 : Below w13.heap.size w13 w15 := by rw [hw15]; exact bl_alloc (bl_refl w13) _
            rw [← hw15] at hrM ⊢
            clear hw15
            obtain ⟨g3, hg3⟩ : ∃ g3, g3 = w13.heap.size := ⟨_, rfl⟩
            rw [← hg3] at hrM ⊢
            clear hg3
            have hbx : Below w10.heap.size w10 w15 := bl_step (bl_step (bl_step hbi hb12) hb13) hb15
            clear hbi hb12 hb13 hb15
            go_loopw [103] (fun i wr => CntRel 2 w15 i wr) (fun i _ => 2 - (intOf i).toNat)
            case atStart => exact ⟨0, by omega, rfl, bl_refl _⟩
            case round =>
              obtain ⟨k3, hk3, rfl, hbj⟩ := hrel
              by_cases hlt3 : k3 < 2
              · obtain ⟨b, off, e, hgl3, hcell3⟩ := (hrM.below hbj).at_of (k := k3) (by simpa using hlt3)
                injection e with e
                injection e with e1 e2
                subst e1; subst e2
                rw [Nat.zero_add] at hcell3
                obtain ⟨M, hM⟩ : ∃ M, M = ([n, (m2 : Int)] : List Int)[k3]'(by simpa using hlt3) := ⟨_, rfl⟩
                have hMl : M ≤ 9223372036854775807 := by
                  rw [hM]
                  match k3, hlt3 with
                  | 0, _ => exact hn2
                  | 1, _ => show (m2 : Int) ≤ _; omega
                rw [← hM] at hcell3
                clear hM
                have ht1 := fun W => take_any T I M W (by omega) hI2 hMl
                have ht2 := fun W => reftake_any T I M W (by omega) hI2 hMl
                have hLl : (tkL T I M 8).length ≤ 9223372036854775807 := tkL_len T I M (by omega)
                obtain ⟨L, hL⟩ : ∃ L, L = tkL T I M 8 := ⟨_, rfl⟩
                obtain ⟨n4, hn4⟩ : ∃ n4, n4 = tkN T I M 8 := ⟨_, rfl⟩
                obtain ⟨e4, he4⟩ : ∃ e4, e4 = takeE T.size I M 8 := ⟨_, rfl⟩
                rw [← hL] at hLl
                simp only [← hL, ← hn4, ← he4] at ht1 ht2
                have HT1 := Lib.hid ht1
                have HT2 := Lib.hid ht2
                clear ht1 ht2 hL hn4 he4
                obtain ⟨w16, rfl⟩ : ∃ w16 : World, w16 = wr := ⟨_, rfl⟩
                go_wp2_with fail
                refine (HT1.out _).mono ?_
                rintro e w17 ⟨A7, c7, rfl, hr7, hc7, hm7, hb17⟩
                go_wp2_with fail
                refine (HT2.out _).mono ?_
                rintro e w18 ⟨A8, c8, rfl, hr8, hc8, hm8, hb18⟩
                go_wp2_with fail
                refine (nums_any A7 A8 L L c7 c8 _ (hr7.below hb18) hr8 hLl).mono ?_
                rintro e w19 ⟨rfl, n19, rfl⟩
                go_wp2
                exact ⟨⟨k3 + 1, by omega, by go_num, bl_drewN (bl_step (bl_step hbj hb17) hb18) _⟩, by simp [intOf]; omega⟩
              · go_wp2
                exact ⟨⟨k2 + 1, by omega, by go_num, bl_step hbx hbj⟩, by simp [intOf]; omega⟩
          · go_wp2
            exact ⟨⟨k + 1, by omega, by go_num, bl_step hbw hbi⟩, by simp [intOf]; omega⟩
      · go_wp2
        go_ret
        exact ⟨rfl, bl_step (bl_step hb05 hb6) hb⟩
end Go.Proofs.Ytdnngacamdohiaa
