/-
  VarintTells: the walk of the law. Conditions: the slice reads as numbers of 64 bits, integers that fit.
-/
import Derived.Test.YtdnngacamdohiaaVBack
import Derived.Deep.RegionHeld3
import Derived.Deep.RegionWith
import Derived.Deep.DeepCutAuto
import Derived.Deep.DrawnRows
namespace Go.Proofs.Ytdnngacamdohiaa
open Go.RowKit
attribute [local go_sem ↓] Go.wp_at_zero Go.wp_at_succ

/-- The counter of a loop over n things; below the heap's size nothing has turned. -/
def VCntRel (n : Nat) (w : World) (i : Value) (wr : World) : Prop := ∃ k : Nat, k ≤ n ∧ i = .int .i64 (k : Int) ∧ Below w.heap.size w wr

theorem Rd.vat_of {w : World} {A : Option Addr} {α : Type} {f : α → Value} {l : List α} (h : Rd w A (l.map f)) {k : Nat} (hk : k < l.length) :
    ∃ b off, A = some ⟨b, off, none⟩ ∧ b < w.heap.size ∧ w.cell? ⟨b, off + k, none⟩ = some (f l[k]) := by
  obtain ⟨b, off, u, e, hb, hu, hc⟩ := h.at_ (k := k) (by rw [List.length_map]; exact hk)
  rw [List.getElem?_map, List.getElem?_eq_getElem hk] at hu
  cases hu
  exact ⟨b, off, e, hb, hc⟩

theorem vstr_from (p q : List UInt8) (k n : Nat) (h : q = p.drop k) (hn : n = p.length) : (ByteArray.mk p.toArray).extract k n = ⟨q.toArray⟩ := by
  apply ByteArray.ext
  apply Array.ext'
  rw [Lib.extract_data, h, hn]
  show (p.drop k).take (p.length - k) = p.drop k
  rw [← List.length_drop, List.take_length]

theorem min_int (n m r : Int) (h : r = min n m) : ∀ (ts : Array TypeId) (t : TypeId) (W : World), (Builtin.min_ ts t #[.int .i64 n, .int .i64 m]).run Try.prog W = .ok (.int .i64 r) W := by
  intro ts t W
  rw [run_min_int2]
  congr 2
  split <;> omega

def VTellsCut (S1 : ByteArray) (o x1 y2 : List UInt8) (w : World) (s56 s57 s58 : Value) (wx : World) : Prop :=
  ∃ g, s56 = .slice (some ⟨g, 0, none⟩) 4 4 ∧ s57 = .int .i64 4 ∧ s58 = .int .i64 0 ∧ Rd wx (some ⟨g, 0, none⟩) ([S1, ⟨o.toArray⟩, ⟨x1.toArray⟩, ⟨y2.toArray⟩].map Value.string) ∧ Below w.heap.size w wx
theorem vtells_cut {S1 : ByteArray} {o x1 y2 : List UInt8} {w wA : World} {t : TypeId} (h : Below w.heap.size w (wA.alloc (.cells #[.string S1, .string ⟨o.toArray⟩, .string ⟨x1.toArray⟩, .string ⟨y2.toArray⟩] t))) :
    VTellsCut S1 o x1 y2 w (.slice (some ⟨wA.heap.size, 0, none⟩) 4 4) (.int .i64 4) (.int .i64 0) (wA.alloc (.cells #[.string S1, .string ⟨o.toArray⟩, .string ⟨x1.toArray⟩, .string ⟨y2.toArray⟩] t)) :=
  ⟨_, rfl, rfl, rfl, Rd.lit _ _ _ _ rfl, h⟩

theorem Rd.drew {w : World} {A : Option Addr} {xs : List Value} (h : Rd w A xs) : Rd w.drew A xs := h.below (Below.drew (bl_refl w))
theorem vtells_cut2 {S1 : ByteArray} {o x1 y2 : List UInt8} {w wA : World} {t : TypeId} (h : Below w.heap.size w (wA.alloc (.cells #[.string S1, .string ⟨o.toArray⟩, .string ⟨x1.toArray⟩, .string ⟨y2.toArray⟩] t))) :
    VTellsCut S1 o x1 y2 w (.slice (some ⟨wA.heap.size, 0, none⟩) 4 4) (.int .i64 4) (.int .i64 0) (wA.alloc (.cells #[.string S1, .string ⟨o.toArray⟩, .string ⟨x1.toArray⟩, .string ⟨y2.toArray⟩] t)).drew :=
  ⟨_, rfl, rfl, rfl, (Rd.lit _ _ _ _ rfl).drew, Below.drew h⟩

theorem vtells_cut3 {S1 : ByteArray} {o x1 y2 : List UInt8} {w wA : World} {t : TypeId} {b : Nat} (hb : b = wA.heap.size) (h : Below w.heap.size w (wA.alloc (.cells #[.string S1, .string ⟨o.toArray⟩, .string ⟨x1.toArray⟩, .string ⟨y2.toArray⟩] t))) :
    VTellsCut S1 o x1 y2 w (.slice (some ⟨b, 0, none⟩) 4 4) (.int .i64 4) (.int .i64 0) (wA.alloc (.cells #[.string S1, .string ⟨o.toArray⟩, .string ⟨x1.toArray⟩, .string ⟨y2.toArray⟩] t)).drew := by
  subst hb
  exact vtells_cut2 h

set_option maxRecDepth 100000 in
set_option maxHeartbeats 4000000 in
theorem vtells_walk (v : Nat) (A : Option Addr) (l : List Nat) (cap : Nat) (s : ByteArray) (at_ n which : Int) (c : Nat) (w : World) (hv64 : v < 18446744073709551616) (hr : Rd w A (us l)) (hc : l.length ≤ cap) (hm : cap ≤ 9223372036854775807) (hv : ∀ x ∈ l, x < 18446744073709551616)
    (hs : s.size ≤ 9223372036854775807) (ha1 : -9223372036854775808 ≤ at_) (ha2 : at_ ≤ 9223372036854775807) (hn1 : -9223372036854775808 ≤ n) (hn2 : n ≤ 9223372036854775807) (hw1 : -9223372036854775808 ≤ which) (hw2 : which ≤ 9223372036854775807) (hc8 : c < 256) :
    Calls Try.prog 9 #[.int .u64 (v : Int), .slice A l.length cap, .string s, .int .i64 at_, .int .i64 n, .int .i64 which, .int .u8 (c : Int)] w (RetTrue w) := by
  obtain ⟨f, hf⟩ : ∃ f, f = l.take 40 := ⟨_, rfl⟩
  have hminf := min_is (P := Try.prog) l.length f.length 40 (by rw [hf, List.length_take]; omega)
  have hf40 : f.length ≤ 40 := by rw [hf, List.length_take]; omega
  have hfl : f.length ≤ l.length := by rw [hf, List.length_take]; omega
  have hvf : ∀ x ∈ f, x < 18446744073709551616 := fun x hx => hv x (List.mem_of_mem_take (by rw [← hf]; exact hx))
  have hrf0 : Rd w A (us f) := by rw [hf]; exact hr.take 40
  clear hf hr hv
  obtain ⟨m, hm1⟩ : ∃ m, m = min s.size 40 := ⟨_, rfl⟩
  have hmins := min_is (P := Try.prog) s.size m 40 (by omega)
  have hm40 : m ≤ 40 := by omega
  have hms : m ≤ s.size := by omega
  have hm0 : 0 ≤ (m : Int) := by omega
  have hmsI : (m : Int) ≤ (s.size : Int) := by omega
  clear hm1
  obtain ⟨S1, hS1⟩ : ∃ S1, S1 = s.extract 0 m := ⟨_, rfl⟩
  have hS1l : S1.size ≤ 1000 := by rw [hS1, ByteArray.size_extract]; omega
  have hS1x : s.extract 0 m = S1 := hS1.symm
  clear hS1
  obtain ⟨p, hp⟩ : ∃ p, p = vB v := ⟨_, rfl⟩
  have hpl : p.length ≤ 10 := by rw [hp]; exact vB_len v
  have hp1 : 1 ≤ p.length := by rw [hp]; exact vB_pos v
  obtain ⟨r, hr0⟩ : ∃ r, r = rowB f := ⟨_, rfl⟩
  have hrl : r.length ≤ 400 := by rw [hr0]; have := rowB_len f; omega
  have hput : ∀ W, Calls Try.prog 27 #[.int .u64 (v : Int)] W fun e w' => e = .returned (.string ⟨p.toArray⟩) ∧ Below W.heap.size W w' := fun W => by
    rw [hp]; exact vput_any v W hv64
  have hrput : ∀ W, Calls Try.prog 28 #[.int .u64 (v : Int)] W fun e w' => e = .returned (.string ⟨p.toArray⟩) ∧ Below W.heap.size W w' := fun W => by
    rw [hp]; exact refput1_any v W hv64
  have hlen : ∀ W, Calls Try.prog 29 #[.int .u64 (v : Int)] W fun e w' => e = .returned (.int .i64 (p.length : Int)) ∧ W = w' := fun W => by
    rw [hp]; exact vlen_any v W hv64
  have hrlen : ∀ W, Calls Try.prog 30 #[.int .u64 (v : Int)] W fun e w' => e = .returned (.int .i64 (p.length : Int)) ∧ Below W.heap.size W w' := fun W => by
    rw [hp]; exact reflen_any v W hv64
  have hrow : ∀ W, Rd W A (us f) → Calls Try.prog 31 #[.slice A f.length cap] W fun e w' => e = .returned (.string ⟨r.toArray⟩) ∧ Below W.heap.size W w' := fun W hW => by
    rw [hr0]; exact row_any A f cap W hW (by omega) hvf
  have hrrow : ∀ W, Rd W A (us f) → Calls Try.prog 32 #[.slice A f.length cap] W fun e w' => e = .returned (.string ⟨r.toArray⟩) ∧ Below W.heap.size W w' := fun W hW => by
    rw [hr0]; exact refrow_any A f cap W hW (by omega) hvf
  clear hp hr0 hvf
  obtain ⟨o, ho⟩ : ∃ o, o = r ++ p := ⟨_, rfl⟩
  have hol : o.length ≤ 410 := by rw [ho, List.length_append]; omega
  have ho1 : 1 ≤ o.length := by rw [ho, List.length_append]; omega
  have hadd1 := str_add (P := Try.prog) r p o ho.symm (by omega)
  clear ho
  obtain ⟨k, hk⟩ : ∃ k, k = pickN which o.length := ⟨_, rfl⟩
  have hko : k < o.length := by rw [hk]; exact pickN_lt _ _ ho1
  have hpick := fun W => pick1_any which o.length W hw1 hw2 ho1 (by omega)
  rw [← hk] at hpick
  clear hk
  obtain ⟨x1, hx1⟩ : ∃ x1, x1 = o.take k := ⟨_, rfl⟩
  obtain ⟨x2, hx2⟩ : ∃ x2, x2 = o.drop (k + 1) := ⟨_, rfl⟩
  have hx1l0 : x1.length ≤ 410 := by rw [hx1, List.length_take]; omega
  have hx1l : x1.length ≤ 410 := by rw [hx1, List.length_take]; omega
  have hx2l : x2.length ≤ 410 := by rw [hx2, List.length_drop]; omega
  have hox1 := vstr_take2 o k x1 hx1
  have hox2 := vstr_from o x2 (k + 1) o.length hx2 rfl
  have hadd2 := str_add (P := Try.prog) x1 [UInt8.ofNat c] (x1 ++ [UInt8.ofNat c]) rfl (by rw [List.length_append]; simp; omega)
  have hadd3 := str_add (P := Try.prog) (x1 ++ [UInt8.ofNat c]) x2 (x1 ++ [UInt8.ofNat c] ++ x2) rfl (by rw [List.length_append, List.length_append]; simp; omega)
  have hcv := conv_one (P := Try.prog) 43 9 5 (UInt8.ofNat c) (c : Int) (by rw [UInt8.toNat_ofNat']; omega) Try.underlying43 Try.underlying5 Try.underlying9
  have hsx1 : ∀ W, (Instr.slice 9 (.string ⟨o.toArray⟩) none (some (.int .i64 (k : Int))) none).run Try.prog W = .ok (.string ⟨x1.toArray⟩) W := fun W => by
    rw [run_slice_string_to_if W 9 _ .i64 (k : Int) Try.underlying9, if_pos ⟨by omega, by show (k : Int) ≤ (o.length : Int); omega⟩, Int.toNat_natCast, hox1]
  have hsx2 : ∀ W, (Instr.slice 9 (.string ⟨o.toArray⟩) (some (.int .i64 ((k : Int) + 1))) none none).run Try.prog W = .ok (.string ⟨x2.toArray⟩) W := fun W => by
    rw [run_slice_string_from_if W 9 _ .i64 ((k : Int) + 1) Try.underlying9, if_pos ⟨by omega, by show (k : Int) + 1 ≤ (o.length : Int); omega⟩, show ((k : Int) + 1).toNat = k + 1 by omega, show (ByteArray.mk o.toArray).size = o.length from rfl, hox2]
  have hsx0 : ∀ W, (Instr.slice 9 (.string s) none (some (.int .i64 (m : Int))) none).run Try.prog W = .ok (.string S1) W := fun W => by
    rw [run_slice_string_to_if W 9 s .i64 (m : Int) Try.underlying9, if_pos ⟨hm0, hmsI⟩, Int.toNat_natCast, hS1x]
  have hkw : IntKind.i64.wrap ((k : Int) + 1) = (k : Int) + 1 := IntWalk.i64_in _ (by omega)
  clear hx1 hx2 hox1 hox2
  obtain ⟨y1, hy1⟩ : ∃ y1, y1 = x1 ++ [UInt8.ofNat c] := ⟨_, rfl⟩
  have hy1l : y1.length ≤ 411 := by rw [hy1, List.length_append]; simp; omega
  rw [← hy1] at hadd2 hadd3
  obtain ⟨y2, hy2⟩ : ∃ y2, y2 = y1 ++ x2 := ⟨_, rfl⟩
  have hy2l : y2.length ≤ 900 := by rw [hy2, List.length_append]; omega
  rw [← hy2] at hadd3
  clear hy1 hy2
  obtain ⟨cc, hcc⟩ : ∃ cc, cc = UInt8.ofNat c := ⟨_, rfl⟩
  rw [← hcc] at hadd2 hcv
  clear hcc
  have HPUT := Lib.hid hput
  have HRPUT := Lib.hid hrput
  have HLEN := Lib.hid hlen
  have HRLEN := Lib.hid hrlen
  have HROW := Lib.hid hrow
  have HRROW := Lib.hid hrrow
  have HPICK := Lib.hid hpick
  clear hput hrput hlen hrlen hrow hrrow hpick
  go_enter Try.func9, Try.ntmps9
  go_wp2_with fail
  refine (awake1_any _).mono ?_
  rintro e w1 ⟨rfl, hb1⟩
  go_wp2_with fail
  refine (HPUT.out _).mono ?_
  rintro e w2 ⟨rfl, hb2⟩
  go_wp2_with fail
  refine (HRPUT.out _).mono ?_
  rintro e w3 ⟨rfl, hb3⟩
  go_wp2_with fail
  refine (HLEN.out _).mono ?_
  rintro e w4 ⟨rfl, rfl⟩
  go_wp2_with fail
  refine (HRLEN.out _).mono ?_
  rintro e w4 ⟨rfl, hb4⟩
  have hb14 := bl_step (bl_step (bl_step hb1 hb2) hb3) hb4
  clear hb1 hb2 hb3 hb4
  go_wp2_with fail
  refine (HROW.out _ (hrf0.below hb14)).mono ?_
  rintro e w5 ⟨rfl, hb5⟩
  have hb15 := bl_step hb14 hb5
  clear hb14 hb5
  go_wp2_with fail
  refine (HRROW.out _ (hrf0.below hb15)).mono ?_
  rintro e w6 ⟨rfl, hb6⟩
  have hb16 := bl_step hb15 hb6
  clear hb15 hb6
  go_wp2_with fail
  refine (HRROW.out _ (hrf0.below hb16)).mono ?_
  rintro e w7 ⟨rfl, hb7⟩
  have hb17 := bl_step hb16 hb7
  clear hb16 hb7
  go_wp2_with fail
  refine (HRPUT.out _).mono ?_
  rintro e w8 ⟨rfl, hb8⟩
  have hb18 := bl_step hb17 hb8
  have hrf8 := hrf0.below hb18
  clear hb17 hb8 hrf0
  go_wp2_with fail
  refine (HPICK.out _).mono ?_
  rintro e w9 ⟨rfl, rfl⟩
  clear HPUT HRPUT HLEN HRLEN HROW HRROW HPICK
  go_wp2_with fail
  go_upto_region 7 with fail
  go_cut [92, 93, 94] (fun s1 s2 s3 wx => VTellsCut S1 o x1 y2 w8 s1 s2 s3 wx)
  case first =>
    clear hrf8 hb18 hS1l hm40 hms hf40 hfl hpl hp1 hrl hol ho1 hko hx1l hx2l hy1l hy2l hx1l0 hm0 hmsI hv64 hc hm hs ha1 ha2 hn1 hn2 hw1 hw2 hc8 hminf hadd1 hS1x
    go_region_with (fail)
    all_goals
      go_wp2_with fail
      go_meet
      exact vtells_cut3 (by simp) (bl_alloc (bl_alloc (bl_refl _) _) _)
  case rest =>
    obtain ⟨g, rfl, rfl, rfl, hrS, hb9⟩ := hcut
    clear hsx1 hsx2 hsx0 hkw hadd1 hadd2 hadd3 hcv hS1x hx1l hx2l hy1l hminf hmins
    have hlf := hf40
    go_wp2_with fail
    go_loopw [94] (fun i wr => VCntRel 4 wc i wr) (fun i _ => 4 - (intOf i).toNat)
    case atStart => exact ⟨0, by omega, rfl, bl_refl _⟩
    case round =>
      obtain ⟨k, hk, rfl, hb⟩ := hrel
      by_cases hlt : k < 4
      · obtain ⟨b, off, e, hgl, hcell⟩ := (hrS.below hb).vat_of (k := k) (by simpa using hlt)
        injection e with e
        injection e with e1 e2
        subst e1; subst e2
        rw [Nat.zero_add] at hcell
        obtain ⟨T, hT⟩ : ∃ T, T = ([S1, ⟨o.toArray⟩, ⟨x1.toArray⟩, ⟨y2.toArray⟩] : List ByteArray)[k]'(by simpa using hlt) := ⟨_, rfl⟩
        have hTl : T.size ≤ 1000 := by
          rw [hT]
          match k, hlt with
          | 0, _ => exact hS1l
          | 1, _ => exact Nat.le_trans hol (by omega)
          | 2, _ => exact Nat.le_trans hx1l0 (by omega)
          | 3, _ => exact Nat.le_trans hy2l (by omega)
        rw [← hT] at hcell
        clear hT
        obtain ⟨w8', rfl⟩ : ∃ w8' : World, w8' = wr := ⟨_, rfl⟩
        go_wp2_with fail
        refine (pick1_any at_ 50 _ ha1 ha2 (by omega) (by omega)).mono ?_
        rintro e w9 ⟨rfl, rfl⟩
        have hp50 := pickN_lt at_ 50 (by omega)
        obtain ⟨i2, hi2⟩ : ∃ i2, i2 = pickN at_ 50 := ⟨_, rfl⟩
        rw [← hi2] at hp50 ⊢
        clear hi2
        go_wp2_with fail
        have hrI := Rd.lit w8' #[.int .i64 at_, .int .i64 (i2 : Int)] 3 (([at_, (i2 : Int)]).map (Value.int .i64)) rfl
        obtain ⟨w10, hw10⟩ : ∃ w10, w10 = w8'.alloc (.cells #[.int .i64 at_, .int .i64 (i2 : Int)] 3) := ⟨_, rfl⟩
        have hb10 : Below w8'.heap.size w8' w10 := by rw [hw10]; exact bl_alloc (bl_refl w8') _
        rw [← hw10] at hrI ⊢
        clear hw10
        obtain ⟨g2, hg2⟩ : ∃ g2, g2 = w8'.heap.size := ⟨_, rfl⟩
        rw [← hg2] at hrI ⊢
        clear hg2
        have hbw : Below wc.heap.size wc w10 := bl_step hb hb10
        clear hb hb10
        go_loopw [103] (fun i wr => VCntRel 2 w10 i wr) (fun i _ => 2 - (intOf i).toNat)
        case atStart => exact ⟨0, by omega, rfl, bl_refl _⟩
        case round =>
          obtain ⟨k2, hk2, rfl, hbi⟩ := hrel
          by_cases hlt2 : k2 < 2
          · obtain ⟨b, off, e, hgl2, hcell2⟩ := (hrI.below hbi).vat_of (k := k2) (by simpa using hlt2)
            injection e with e
            injection e with e1 e2
            subst e1; subst e2
            rw [Nat.zero_add] at hcell2
            obtain ⟨I, hI⟩ : ∃ I, I = ([at_, (i2 : Int)] : List Int)[k2]'(by simpa using hlt2) := ⟨_, rfl⟩
            rw [← hI] at hcell2
            clear hI
            have hh1 := fun W => vtake_any T I W (by omega)
            have hh2 := fun W => rvtake_any T I W (by omega)
            obtain ⟨R, hR⟩ : ∃ R, R = tk T.data.toList I := ⟨_, rfl⟩
            rw [← hR] at hh1 hh2
            obtain ⟨V, N, E, hh⟩ : ∃ V N E : Int, ∀ W en w', RetV R I W en w' → (en = .returned (.tuple #[.int .u64 V, .int .i64 N, .int .i64 E]) ∧ W = w') := ⟨_, _, _, fun W en w' h => h⟩
            have HH1 := Lib.hid (fun W => (hh1 W).mono (hh W))
            have HH2 := Lib.hid (fun W => (hh2 W).mono (hh W))
            clear hh1 hh2 hR hh
            obtain ⟨w11, rfl⟩ : ∃ w11 : World, w11 = wr := ⟨_, rfl⟩
            go_wp2_with fail
            refine (HH1.out _).mono ?_
            rintro e w12 ⟨rfl, rfl⟩
            go_wp2_with fail
            refine (HH2.out _).mono ?_
            rintro e w13 ⟨rfl, rfl⟩
            obtain ⟨mn, hmn⟩ : ∃ mn, mn = min n 100 := ⟨_, rfl⟩
            have hmnl : mn ≤ 100 := by omega
            have hminn := min_int n 100 mn hmn
            clear hmn
            go_wp2_with fail
            refine (pick1_any n 20 _ hn1 hn2 (by omega) (by omega)).mono ?_
            rintro e w14 ⟨rfl, rfl⟩
            have hp20 := pickN_lt n 20 (by omega)
            obtain ⟨m2, hm2⟩ : ∃ m2, m2 = pickN n 20 := ⟨_, rfl⟩
            rw [← hm2] at hp20 ⊢
            clear hm2 HH1 HH2
            go_wp2_with fail
            have hrM := Rd.lit w11 #[.int .i64 mn, .int .i64 (m2 : Int), .int .i64 (f.length : Int)] 3 (([mn, (m2 : Int), (f.length : Int)]).map (Value.int .i64)) rfl
            obtain ⟨w15, hw15⟩ : ∃ w15, w15 = w11.alloc (.cells #[.int .i64 mn, .int .i64 (m2 : Int), .int .i64 (f.length : Int)] 3) := ⟨_, rfl⟩
            have hb15 : Below w11.heap.size w11 w15 := by rw [hw15]; exact bl_alloc (bl_refl w11) _
            rw [← hw15] at hrM ⊢
            clear hw15
            obtain ⟨g3, hg3⟩ : ∃ g3, g3 = w11.heap.size := ⟨_, rfl⟩
            rw [← hg3] at hrM ⊢
            clear hg3
            have hbx : Below w10.heap.size w10 w15 := bl_step hbi hb15
            clear hbi hb15
            go_loopw [142] (fun i wr => VCntRel 3 w15 i wr) (fun i _ => 3 - (intOf i).toNat)
            case atStart => exact ⟨0, by omega, rfl, bl_refl _⟩
            case round =>
              obtain ⟨k3, hk3, rfl, hbj⟩ := hrel
              by_cases hlt3 : k3 < 3
              · obtain ⟨b, off, e, hgl3, hcell3⟩ := (hrM.below hbj).vat_of (k := k3) (by simpa using hlt3)
                injection e with e
                injection e with e1 e2
                subst e1; subst e2
                rw [Nat.zero_add] at hcell3
                obtain ⟨M, hM⟩ : ∃ M, M = ([mn, (m2 : Int), (f.length : Int)] : List Int)[k3]'(by simpa using hlt3) := ⟨_, rfl⟩
                have hMl : M ≤ 9223372036854775807 := by
                  rw [hM]
                  match k3, hlt3 with
                  | 0, _ => show mn ≤ _; omega
                  | 1, _ => show (m2 : Int) ≤ _; omega
                  | 2, _ => show (f.length : Int) ≤ _; omega
                rw [← hM] at hcell3
                clear hM
                have ht1 := fun W => takerow_any T I M W (by omega) hMl
                have ht2 := fun W => rtakerow_any T I M W (by omega) hMl
                obtain ⟨Q, hQ⟩ : ∃ Q, Q = trow T.data.toList I M := ⟨_, rfl⟩
                rw [← hQ] at ht1 ht2
                obtain ⟨e4, L, n4⟩ := Q
                obtain ⟨e5, he5⟩ : ∃ e5 : Int, e5 = (((e4, L, n4) : Nat × List Nat × Int).1 : Int) := ⟨_, rfl⟩
                rw [← he5] at ht1 ht2
                have HT1 := Lib.hid (show ∀ W, Calls Try.prog 36 #[.string T, .int .i64 I, .int .i64 M] W (RetTake L n4 e5 W) from ht1)
                have HT2 := Lib.hid (show ∀ W, Calls Try.prog 37 #[.string T, .int .i64 I, .int .i64 M] W (RetTake L n4 e5 W) from ht2)
                clear ht1 ht2 hQ he5
                obtain ⟨w16, rfl⟩ : ∃ w16 : World, w16 = wr := ⟨_, rfl⟩
                go_wp2_with fail
                refine (HT1.out _).mono ?_
                rintro e w17 ⟨A7, c7, rfl, hr7, hc7, hm7, hb17⟩
                go_wp2_with fail
                refine (HT2.out _).mono ?_
                rintro e w18 ⟨A8, c8, rfl, hr8, hc8, hm8, hb18⟩
                go_wp2_with fail
                refine (nums_any A7 A8 L L c7 c8 _ (hr7.below hb18) hr8 (by unfold maxLen at hm7; omega)).mono ?_
                rintro e w19 ⟨rfl, n19, rfl⟩
                go_wp2
                exact ⟨⟨k3 + 1, by omega, by go_num, bl_drewN (bl_step (bl_step hbj hb17) hb18) _⟩, by simp [intOf]; omega⟩
              · go_wp2
                exact ⟨⟨k2 + 1, by omega, by go_num, bl_step hbx hbj⟩, by simp [intOf]; omega⟩
          · go_wp2
            exact ⟨⟨k + 1, by omega, by go_num, bl_step hbw hbi⟩, by simp [intOf]; omega⟩
      · go_wp2
        go_ret
        exact ⟨rfl, bl_step (bl_step hb18 hb9) hb⟩
end Go.Proofs.Ytdnngacamdohiaa
