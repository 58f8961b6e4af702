/-
  A statement that draws its order and makes one block of its own: the block may be made ahead of, between or behind the other operations; one walk in the text's order serves every order. No condition.
-/
import Derived.Test.YtappejihclmjmaaTail
namespace Go.Proofs.Ytappejihclmjmaa
open Go.RowKit

/-- A class of worlds that stays when memory grows. -/
class Growing (W : World) (C : World → Prop) : Prop where
  below : ∀ w, C w → Below W.heap.size W w
  up : ∀ w w', C w → Below w.heap.size w w' → C w'
  inhab : ∃ w, C w

/-- A world of such a class. -/
structure Grown (W : World) (C : World → Prop) where
  w : World
  mem : C w

instance {W : World} {C : World → Prop} [G : Growing W C] : Nonempty (Grown W C) := by
  obtain ⟨w, h⟩ := G.inhab
  exact ⟨⟨w, h⟩⟩

section
variable {W : World} {C : World → Prop} [G : Growing W C]
theorem Grown.below (x : Grown W C) : Below W.heap.size W x.w := G.below _ x.mem
@[go_sem] theorem Grown.cell (x : Grown W C) (b o : Nat) (h : b < W.heap.size) : x.w.cell? ⟨b, o, none⟩ = W.cell? ⟨b, o, none⟩ := (Grown.below x).cell (p := ⟨b, o, none⟩) h
@[go_sem] theorem Grown.frozen (x : Grown W C) (b o : Nat) (h : b < W.heap.size) : x.w.frozen? ⟨b, o, none⟩ = W.frozen? ⟨b, o, none⟩ := (Grown.below x).frozen (p := ⟨b, o, none⟩) h

theorem grown_of {P : Program} {f : FuncId} {args : Array Value} {x : Grown W C} {v : Value} (h : Calls P f args x.w fun e w' => e = .returned v ∧ Below x.w.heap.size x.w w') :
    Calls P f args x.w fun e w'' => e = .returned v ∧ ∃ y : Grown W C, w'' = y.w :=
  h.mono fun _ w' ⟨he, hb⟩ => ⟨he, ⟨w', G.up _ _ x.mem hb⟩, rfl⟩
theorem grown_drewN {P : Program} {f : FuncId} {args : Array Value} {x : Grown W C} {v : Value} (h : Calls P f args x.w fun e w' => e = .returned v ∧ ∃ n, w' = x.w.drewN n) :
    Calls P f args x.w fun e w'' => e = .returned v ∧ ∃ y : Grown W C, w'' = y.w :=
  h.mono fun _ w' ⟨he, n, hn⟩ => ⟨he, ⟨w', G.up _ _ x.mem (by rw [hn]; exact bl_drewN (bl_refl _) n)⟩, rfl⟩
end

theorem grown_same {W : World} {C : World → Prop} {P : Program} {f : FuncId} {args : Array Value} {x : Grown W C} {v : Value} (h : Calls P f args x.w fun e w' => e = .returned v ∧ x.w = w') :
    Calls P f args x.w fun e w'' => e = .returned v ∧ ∃ y : Grown W C, w'' = y.w :=
  h.mono fun _ w' ⟨he, hb⟩ => ⟨he, x, hb.symm⟩

/-- The worlds behind W, below whose size nothing has turned. -/
def CLater (W : World) (w : World) : Prop := Below W.heap.size W w
instance (W : World) : Growing W (CLater W) := ⟨fun _ h => h, fun _ _ h k => bl_step h k, ⟨W, bl_refl W⟩⟩
/-- The same, and block b is new and lies there. -/
def CMade (W : World) (b : Nat) (Z : Obj) (w : World) : Prop := Below W.heap.size W w ∧ W.heap.size ≤ b ∧ w.heap[b]? = some Z
theorem lt_of_heap {w : World} {b : Nat} {Z : Obj} (h : w.heap[b]? = some Z) : b < w.heap.size := (Array.getElem?_eq_some_iff.1 h).1
theorem CMade.growing {W w0 : World} {b : Nat} {Z : Obj} (h : CMade W b Z w0) : Growing W (CMade W b Z) :=
  ⟨fun _ h => h.1, fun _ _ h k => ⟨bl_step h.1 k, h.2.1, (k.block b (lt_of_heap h.2.2)).trans h.2.2⟩, ⟨w0, h⟩⟩

section
variable {P : Program} {ops : Array Oper} {md : Region.Mode} {W : World}

/-- One value, whatever the growing class. -/
def YieldsG (P : Program) (ops : Array Oper) (W : World) (o : Oper) (v : Value) (a : Act) : Prop := ∀ C, Growing W C → YieldsIn P ops C o v a

theorem YieldsG.put {o oj : Oper} {v u : Value} {a : Act} (h : YieldsG P ops W o v a) (hs : ∀ cs b, o.op ≠ .select cs b) (hap : o.apart ops oj = true) : YieldsG P ops W o v (a.put oj.dst u) := fun C G =>
  (h C G).of_same (execOp_put o hs a oj.dst u (Oper.apart_spec hap).2.2) (wanted_put o a oj.dst u (Oper.apart_spec hap).2.2)

/-- As HeadQ, at all growing classes at once; operation m makes a block. -/
def HeadM (P : Program) (md : Region.Mode) (ops : Array Oper) (W : World) (m : Nat) (d : Option Nat) (Z : Obj) (L : Nat → Array Bool → Act → Prop) : Nat → Array Bool → Act → Prop
  | 0, _, _ => False
  | f + 1, s, a => Region.ready md ops s ≠ [] ∧ ∀ i ∈ Region.ready md ops s, i < m + 1 ∧
      if i = m then ∀ b w0, CMade W b Z w0 → HeadQ P md ops (CMade W b Z) (m + 1) (L b) f (s.setIfInBounds m true) (a.put d (.pointer (some ⟨b, 0, none⟩)))
      else qOp P ops (CLater W) i (HeadM P md ops W m d Z L f (s.setIfInBounds i true)) a

theorem HeadM.any {m g : Nat} {d : Option Nat} {Z : Obj} {om : Oper} {L : Nat → Array Bool → Act → Prop} {Q : Exit → Act → World → Prop} (hom : ops[m]? = some om) (hd : om.dst = d)
    (hwant : ∀ a : Act, Region.wanted om (yielded ops a.tmps) = true) (hrun : ∀ (a : Act) (w : World), (execOp a.eval om).run P w = .ok (.value (.pointer (some ⟨w.heap.size, 0, none⟩))) (w.alloc Z))
    (hL : ∀ b s a w, CMade W b Z w → L b s a → wpAny P md ops Q g s a w) (f : Nat) :
    ∀ (s : Array Bool) (a : Act) (w : World), CLater W w → HeadM P md ops W m d Z L f s a → wpAny P md ops Q (f + g) s a w := by
  induction f with
  | zero => intro s a w hw h; exact h.elim
  | succ f ih =>
    intro s a w hw h
    rw [Nat.succ_add]
    refine ⟨fun e => absurd e h.1, fun i hi => ?_⟩
    have h1 := (h.2 i hi).2
    by_cases e : i = m
    · subst e
      rw [if_pos rfl] at h1
      have hc : CMade W w.heap.size Z (w.alloc Z) := ⟨bl_alloc hw Z, hw.size, heap_alloc_new w Z⟩
      have h2 := HeadQ.any (Q := Q) (g := g) (hL w.heap.size) f _ _ _ hc (h1 _ _ hc)
      unfold wpOp
      simp only [hom]
      rw [if_pos (hwant a)]
      refine .inl ?_
      unfold Oper.wp
      rw [hrun a w]
      subst hd
      exact h2
    · rw [if_neg e] at h1
      exact wpOp_of_qOp hw (fun a' w' hw' => ih _ a' w' hw') h1

theorem HeadM.first {m i : Nat} {oi om : Oper} {v : Value} {d : Option Nat} {Z : Obj} {L : Nat → Array Bool → Act → Prop} (hi : ops[i]? = some oi) (hom : ops[m]? = some om) (hd : om.dst = d)
    (hsel : ∀ (j : Nat) (o : Oper) cs b, ops[j]? = some o → o.op ≠ .select cs b)
    (hs : Region.sinkB md ops (m + 1) = true) (hc : Region.chainB md ops (m + 1) = true) (hn : m + 1 < ops.size) (hin : i < m) (hdone : ∀ b s a, L b s a → ∀ j ∈ Region.ready md ops s, m + 1 ≤ j) (f : Nat) :
    ∀ (s : Array Bool) (a : Act), HeadInv md ops (m + 1) s →
      (∀ j oj, ops[j]? = some oj → j ≠ i → s.getD j true = false → (∀ e ∈ oj.after, Region.binds md e = true → e.on ≠ i) → oi.apart ops oj = true) →
      i ∈ Region.ready md ops s → YieldsG P ops W oi v a → HeadM P md ops W m d Z L f (s.setIfInBounds i true) (a.put oi.dst v) → HeadM P md ops W m d Z L (f + 1) s a := by
  induction f with
  | zero => intro s a inv _ hr hy H; exact H.elim
  | succ f ih =>
    intro s a inv hfree hr hy H
    refine ⟨fun e => (by rw [e] at hr; cases hr), fun j hj => ?_⟩
    have hjn : j < m + 1 := Nat.lt_of_not_le fun e => tail_waits hs hc hn inv _ i rfl (by omega) (mem_ready.1 hr).1 j e hj
    refine ⟨hjn, ?_⟩
    by_cases e : j = i
    · subst e
      rw [if_neg (by omega)]
      exact (hy _ inferInstance).qOp hi H
    · obtain ⟨hju, oj, hoj, hall⟩ := mem_ready.1 hj
      have hno : ∀ d ∈ oj.after, Region.binds md d = true → d.on ≠ i := fun d hd hb heq => by
        have h1 := hall d hd hb
        rw [heq, getD_both (mem_ready.1 hr).1] at h1
        cases h1
      have hap := hfree j oj hoj e hju hno
      have hfree' : ∀ k ok, ops[k]? = some ok → k ≠ i → (s.setIfInBounds j true).getD k true = false → (∀ e ∈ ok.after, Region.binds md e = true → e.on ≠ i) → oi.apart ops ok = true := fun k ok hk hki hku hkn => by
        refine hfree k ok hk hki ?_ hkn
        by_cases d : j = k
        · subst d; exact hju
        · rwa [getD_set_ne true d] at hku
      have h1 := (H.2 j (ready_mono hj e)).2
      by_cases em : j = m
      · subst em
        rw [if_pos rfl] at h1 ⊢
        obtain rfl : om = oj := Option.some.inj (hom.symm.trans hoj)
        subst hd
        intro b w0 hcm
        refine HeadQ.first hi hsel hs hc hn (by omega) (hdone b) f _ _ (inv.set hj hjn) hfree' (ready_mono hr (Ne.symm e)) ((hy.put (fun cs b => hsel i oi cs b hi) hap) _ hcm.growing) ?_
        have h2 := h1 b w0 hcm
        rw [Array.setIfInBounds_comm _ _ e, ← Act.put_comm a v _ (Oper.apart_spec hap).2.1]
        exact h2
      · rw [if_neg em] at h1 ⊢
        obtain ⟨u, hu, hK⟩ := yieldsIn_of_qOp hoj h1
        have hap1 := (Oper.apart_spec hap).1
        refine YieldsIn.qOp hoj (hu.of_same (execOp_put oj (fun cs b => hsel j oj cs b hoj) a oi.dst v hap1).symm (wanted_put oj a oi.dst v hap1).symm) ?_
        refine ih _ _ (inv.set hj hjn) hfree' (ready_mono hr (Ne.symm e)) (hy.put (fun cs b => hsel i oi cs b hi) hap) ?_
        rw [Array.setIfInBounds_comm _ _ e, ← Act.put_comm a v u (Oper.apart_spec hap).2.1]
        exact hK

/-- The lexical walk, at all growing classes at once. -/
def wpG (P : Program) (ops : Array Oper) (W : World) (T : Act → Prop) : List Oper → Act → Prop
  | [], a => T a
  | o :: rest, a => ∃ v, YieldsG P ops W o v a ∧ wpG P ops W T rest (a.put o.dst v)

/-- Each operation has a slot of its own, within the frame. -/
def dstsB (n : Nat) : List Oper → Bool
  | [] => true
  | o :: l => (match o.dst with | some d => decide (d < n) && l.all (fun p => p.dst != some d) | none => false) && dstsB n l

theorem quiet_cons {C : World → Prop} {T : Act → Prop} {o : Oper} {l : List Oper} {a : Act} (h : wpQuiet P ops C T (o :: l) a) : ∃ v, YieldsIn P ops C o v a ∧ wpQuiet P ops C T l (a.put o.dst v) := by
  unfold wpQuiet at h
  by_cases hw : Region.wanted o (yielded ops a.tmps) = true
  · rw [if_pos hw] at h
    obtain ⟨v, h1, h2⟩ := h
    exact ⟨v, .inl ⟨hw, h1⟩, h2⟩
  · rw [if_neg hw] at h
    exact ⟨undef, .inr ⟨by simpa using hw, rfl⟩, h⟩
theorem put_get {a : Act} {d : Nat} {v : Value} (h : d < a.tmps.size) : (a.put (some d) v).tmps[d]? = some v := by simp [Act.put, h]
theorem put_get_ne {a : Act} {d : Nat} {x : Option Nat} {v : Value} (h : x ≠ some d) : (a.put x v).tmps[d]? = a.tmps[d]? := by
  cases x with
  | none => rfl
  | some e => simp [Act.put, Array.getElem?_setIfInBounds, show e ≠ d from fun k => h (by rw [k])]
theorem put_size {a : Act} {x : Option Nat} {v : Value} : (a.put x v).tmps.size = a.tmps.size := by
  cases x with
  | none => rfl
  | some e => simp [Act.put]
theorem quiet_slot {C : World → Prop} {fin : Act} {d : Nat} (l : List Oper) : ∀ a, wpQuiet P ops C (fun x => x = fin) l a → (∀ o ∈ l, o.dst ≠ some d) → fin.tmps[d]? = a.tmps[d]? := by
  induction l with
  | nil => intro a h _; have h' : a = fin := h; rw [h']
  | cons o l ih =>
    intro a h hd
    obtain ⟨v, _, h2⟩ := quiet_cons h
    rw [ih _ h2 (fun p hp => hd p (List.mem_cons_of_mem _ hp)), put_get_ne (hd o List.mem_cons_self)]

theorem uniform {fin : Act} {n : Nat} (l : List Oper) : ∀ a, (∀ C, Growing W C → wpQuiet P ops C (fun x => x = fin) l a) → a.tmps.size = n → dstsB n l = true → wpG P ops W (fun x => x = fin) l a := by
  induction l with
  | nil => intro a h _ _; exact h (CLater W) inferInstance
  | cons o l ih =>
    intro a h hn hB
    obtain ⟨v, hy, h2⟩ := quiet_cons (h (CLater W) inferInstance)
    simp only [dstsB, Bool.and_eq_true] at hB
    obtain ⟨hB1, hB2⟩ := hB
    cases hd : o.dst with
    | none => rw [hd] at hB1; cases hB1
    | some d =>
      rw [hd] at hB1
      simp only [Bool.and_eq_true, decide_eq_true_eq, List.all_eq_true, bne_iff_ne] at hB1
      have hsame : ∀ C, Growing W C → YieldsIn P ops C o v a ∧ wpQuiet P ops C (fun x => x = fin) l (a.put o.dst v) := fun C G => by
        obtain ⟨u, hyu, hu⟩ := quiet_cons (h C G)
        have e1 := quiet_slot l _ h2 hB1.2
        have e2 := quiet_slot l _ hu hB1.2
        have hlt : d < a.tmps.size := by rw [hn]; exact hB1.1
        rw [hd, put_get hlt] at e1 e2
        have e3 : v = u := Option.some.inj (e1.symm.trans e2)
        subst e3
        exact ⟨hyu, hu⟩
      exact ⟨v, fun C G => (hsame C G).1, ih _ (fun C G => (hsame C G).2) (by rw [put_size]; exact hn) hB2⟩

theorem HeadM.lex {m g : Nat} {om : Oper} {d : Option Nat} {Z : Obj} {fin : Act} (hom : ops[m]? = some om) (hd : om.dst = d) (hsel : Region.noSelect ops = true) (hs : Region.sinkB md ops (m + 1) = true) (hc : Region.chainB md ops (m + 1) = true) (hn : m + 1 < ops.size) (l : List Oper) :
    ∀ (k : Nat) (s : Array Bool) (a : Act), (∀ j, j < l.length → l[j]? = ops[k + j]?) → k + l.length = m → HeadInv md ops (m + 1) s → Region.lexHead md ops (g + 1) l.length k s = true → wpG P ops W (fun x => x = fin) l a →
      HeadM P md ops W m d Z (fun b s' a' => Region.seqB md ops g (m + 1) s' = true ∧ a' = fin.put d (.pointer (some ⟨b, 0, none⟩))) (l.length + 1) s a := by
  induction l with
  | nil =>
    intro k s a _ hk _ hB h
    obtain rfl : k = m := by simpa using hk
    simp only [List.length_nil, Region.lexHead, Region.seqB, Bool.and_eq_true, decide_eq_true_eq] at hB
    refine ⟨fun e => (by rw [hB.1] at e; cases e), fun i hi => ?_⟩
    rw [hB.1] at hi
    obtain rfl : i = k := by simpa using hi
    refine ⟨by omega, ?_⟩
    rw [if_pos rfl]
    intro b w0 _
    have h' : a = fin := h
    exact ⟨hB.2, by rw [h']⟩
  | cons o l ih =>
    intro k s a hl hk inv hB h
    have h0 : ops[k]? = some o := by simpa using (hl 0 (by simp)).symm
    simp only [List.length_cons, Region.lexHead, Bool.and_eq_true] at hB hk
    have hr : k ∈ Region.ready md ops s := by simpa using hB.1.1
    obtain ⟨v, hy, hK⟩ := h
    refine HeadM.first h0 hom hd (Region.noSelect_spec hsel) hs hc hn (by omega) (fun b s' a' hL => seqB_ready hL.1) (l.length + 1) s a inv (Region.free_spec h0 hB.1.2) hr hy ?_
    exact ih (k + 1) _ _ (fun j hj => by have := hl (j + 1) (by simp; omega); simpa [Nat.add_assoc, Nat.add_comm 1 j] using this) (by omega) (inv.set hr (by omega)) hB.2 hK
end

theorem blk_cell {w : World} {b : Nat} {cs : Array Value} {t : TypeId} {z : Nat × Nat} (h : w.heap[b]? = some (.cells cs t z)) (i : Nat) : w.cell? ⟨b, i, none⟩ = cs[i]? := cell_of_row w b i cs t z h
theorem blk_frozen {w : World} {b : Nat} {cs : Array Value} {t : TypeId} (h : w.heap[b]? = some (.cells cs t (0, 0))) (i : Nat) : w.frozen? ⟨b, i, none⟩ = false := by simp [World.frozen?, h]

/-- The region's form: m operations, one that makes a block, a tail that waits for all. -/
def allocB (ops : Array Oper) (m : Nat) : Bool :=
  Region.noSelect ops && decide (m + 1 < ops.size) && Region.sinkB .any ops (m + 1) && Region.chainB .any ops (m + 1) && Region.lexHead .any ops (ops.size - m) m 0 (Array.replicate ops.size false)

/-- A region that draws its order and makes one block. -/
theorem wp_region_alloc {P : Program} {id : Nat} {Q : Exit → Act → World → Prop} {a : Act} {W : World} {l : List Oper} (m n : Nat) (om : Oper) (d : Option Nat) (Z : Obj) (fin : Act) (hm : P.follows .mixedOrders = true) (hB : allocB l.toArray m = true)
    (hom : l.toArray[m]? = some om) (hd : om.dst = d) (hg : om.guard = none) (hrun : ∀ (a : Act) (w : World), (execOp a.eval om).run P w = .ok (.value (.pointer (some ⟨w.heap.size, 0, none⟩))) (w.alloc Z))
    (hn : a.tmps.size = n) (hD : dstsB n (l.take m) = true)
    (h : ∀ C, Growing W C → wpQuiet P l.toArray (fun w' => ∃ x : Grown W C, w' = x.w) (fun x => x = fin) (l.take m) a)
    (ht : ∀ b (x : Later W), W.heap.size ≤ b → x.w.heap[b]? = some Z → wpList P l.toArray Q (l.drop (m + 1)) (fin.put d (.pointer (some ⟨b, 0, none⟩))) x.w) : (Code.region id l.toArray true).wp P Q a W := by
  simp only [allocB, Bool.and_eq_true, decide_eq_true_eq] at hB
  obtain ⟨⟨⟨⟨hsel, hsz⟩, hs⟩, hc⟩, hlex⟩ := hB
  have hsz' : m + 1 < l.length := by simpa using hsz
  have htl : (l.take m).length = m := by simp; omega
  have hdl : (l.drop (m + 1)).length = l.toArray.size - (m + 1) := by simp
  have inv : HeadInv .any l.toArray (m + 1) (Array.replicate l.toArray.size false) := by
    refine ⟨by simp, fun j oj _ hl => ?_, fun t _ ht => getD_in (by simpa using ht) (getD_replicate_false _ _)⟩
    rw [getD_replicate_false] at hl
    cases hl
  have hcl : ∀ C, Growing W C → wpQuiet P l.toArray C (fun x => x = fin) (l.take m) a := fun C G => by
    have h1 := h C G
    have e : (fun w' => ∃ x : Grown W C, w' = x.w) = C := by
      funext w'
      exact propext ⟨fun ⟨x, hx⟩ => hx ▸ x.mem, fun hw => ⟨⟨w', hw⟩, rfl⟩⟩
    rwa [e] at h1
  have hG := uniform (l.take m) a hcl hn hD
  have H := HeadM.lex (md := .any) (g := l.toArray.size - (m + 1)) (Z := Z) hom hd hsel hs hc hsz (l.take m) 0 _ a (fun j hj => by rw [htl] at hj; simp [hj]) (by simpa using htl) inv
    (by rw [htl, show l.toArray.size - (m + 1) + 1 = l.toArray.size - m by omega]; exact hlex) hG
  refine wp_region_any hm ?_
  have hdrew : CLater W { W with drawn := W.drawn + 1 } := (Later.drew1 W).below
  have := HeadM.any (Q := Q) (g := l.toArray.size - (m + 1)) hom hd (fun a => by unfold Region.wanted; rw [hg]) hrun (fun b s a' w' hw' hL => by
    obtain ⟨hL1, rfl⟩ := hL
    have h3 := wpAny_of_seq (md := .any) (Q' := Q) (l.drop (m + 1)) (m + 1) s _ w' (fun j => by simp [List.getElem?_drop]) (by rw [hdl]; exact hL1) (ht b ⟨w', hw'.1⟩ hw'.2.1 hw'.2.2)
    rwa [hdl] at h3) _ _ _ _ hdrew H
  rw [htl, show m + 1 + (l.toArray.size - (m + 1)) = l.toArray.size by omega] at this
  exact this
end Go.Proofs.Ytappejihclmjmaa
