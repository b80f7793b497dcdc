/- A region that draws its order and makes memory: each operation by itself, what it needs and what it hands on; nothing of one program. -/
import Derived.Test.YtojpimpfpjhflaaSl
import Derived.Orders
namespace Go.Proofs.Ytojpimpfpjhflaa.Fw
open Go Go.RowKit Go.Proofs.YtojpimpfpjhflaaW.PrintWords
set_option linter.unusedVariables false
set_option linter.unusedSimpArgs false

/-! ### the same resources in another order -/
theorem sl_perm {L L' : List Asn} (h : L.Perm L') : ∀ {w : World} {S : Fp}, sl L w S → sl L' w S := by
  induction h with
  | nil => exact fun h => h
  | cons A _ ih =>
    rintro w S ⟨S1, S2, h1, h2, h3, h4, h5⟩
    exact ⟨S1, S2, h1, ih h2, h3, h4, h5⟩
  | swap A B L => exact fun h => sl_sel (.t .h) h
  | trans _ _ ih1 ih2 => exact fun h => ih2 (ih1 h)
theorem St.perm {w0 w : World} {S0 : Fp} {L L' : List Asn} (H : St w0 S0 L w) (h : L.Perm L') : St w0 S0 L' w := by
  obtain ⟨hm, S, hS, hl⟩ := H
  exact ⟨hm, S, sl_perm h hS, hl⟩
section
variable {β : Type}
theorem fm_split {f g h : Nat → List β} : ∀ (l : List Nat), (∀ j ∈ l, f j = g j ++ h j) → (l.flatMap f).Perm (l.flatMap g ++ l.flatMap h)
  | [], _ => .refl _
  | a :: l, hj => by
    simp only [List.flatMap_cons]
    rw [hj a List.mem_cons_self]
    have ih := fm_split l (fun j hjl => hj j (List.mem_cons_of_mem _ hjl))
    refine (List.Perm.append_left _ ih).trans ?_
    rw [List.append_assoc, List.append_assoc]
    refine List.Perm.append_left _ ?_
    rw [← List.append_assoc, ← List.append_assoc]
    exact List.Perm.append_right _ List.perm_append_comm
theorem fm_filter (c : Nat → Bool) (f : Nat → List β) : ∀ l : List Nat, l.flatMap (fun j => if c j = true then f j else []) = (l.filter c).flatMap f
  | [] => rfl
  | a :: l => by
    simp only [List.flatMap_cons, List.filter_cons]
    rw [fm_filter c f l]
    cases c a <;> simp
theorem fm_nil (l : List Nat) (f : Nat → List β) (h : ∀ j ∈ l, f j = []) : l.flatMap f = [] := by
  induction l with
  | nil => rfl
  | cons a l ih => rw [List.flatMap_cons, h a List.mem_cons_self, ih (fun j hj => h j (List.mem_cons_of_mem _ hj))]; rfl
theorem fm_one (X : List β) (i : Nat) : ∀ p : Nat, i < p → (List.range p).flatMap (fun j => if j = i then X else []) = X
  | 0, h => by omega
  | p + 1, h => by
    rw [List.range_succ, List.flatMap_append]
    by_cases e : i = p
    · subst e
      rw [fm_nil (List.range i) _ (fun j hj => by rw [if_neg (by have := List.mem_range.1 hj; omega)])]
      simp
    · rw [fm_one X i p (by omega)]
      simp [show ¬ p = i by omega]
theorem fm_congr {f g : Nat → List β} (l : List Nat) (h : ∀ j ∈ l, f j = g j) : l.flatMap f = l.flatMap g := by
  induction l with
  | nil => rfl
  | cons a l ih => rw [List.flatMap_cons, List.flatMap_cons, h a List.mem_cons_self, ih (fun j hj => h j (List.mem_cons_of_mem _ hj))]
end

theorem cnt_lt {c c' : Nat → Bool} (h : ∀ j, c' j = true → c j = true) {i : Nat} (h1 : c i = true) (h2 : c' i = false) : ∀ l : List Nat, i ∈ l → (l.filter c').length < (l.filter c).length
  | [], hi => absurd hi List.not_mem_nil
  | a :: l, hi => by
    have le : ∀ l : List Nat, (l.filter c').length ≤ (l.filter c).length := by
      intro l
      induction l with
      | nil => simp
      | cons a l ih =>
        simp only [List.filter_cons]
        by_cases e : c' a = true
        · rw [if_pos e, if_pos (h a e)]; simpa using ih
        · rw [if_neg e]
          split
          · simp; omega
          · exact ih
    simp only [List.filter_cons]
    rcases List.mem_cons.1 hi with rfl | hi
    · rw [if_pos h1, if_neg (by rw [h2]; simp)]
      have := le l
      simp; omega
    · have ih := cnt_lt h h1 h2 l hi
      by_cases e : c' a = true
      · rw [if_pos e, if_pos (h a e)]; simpa using ih
      · rw [if_neg e]
        split
        · simp; omega
        · exact ih
/-! ### who waits for whom -/
theorem ble_i {a b : Nat} : Nat.ble a b = true ↔ a ≤ b := by rw [Nat.ble_eq]
theorem blt_i {a b : Nat} : Nat.blt a b = true ↔ a < b := by rw [Nat.blt_eq]
def dep (ops : Array Oper) (i j : Nat) : Bool := match ops[i]? with
  | some o => o.after.any fun e => Region.binds .any e && e.on == j
  | none => false
def dstOf (ops : Array Oper) (i : Nat) : Option Nat := (ops[i]?).bind (·.dst)
def dstv (ops : Array Oper) (i : Nat) (τ : Tm) : Value := match dstOf ops i with
  | some d => τ d
  | none => undef
def mixOK (n : Nat) (ops : Array Oper) (p : Nat) (cs : Nat → Nat) : Bool :=
  Nat.ble p ops.size &&
  (List.range p).all (fun i => (match dstOf ops i with | some d => Nat.blt d n && (List.range p).all (fun j => Nat.beq i j || dstOf ops j != some d) | none => false)) &&
  (List.range ops.size).all (fun i => (List.range ops.size).all fun j => !dep ops i j || Nat.blt j i) &&
  (List.range ops.size).all (fun i => (List.range ops.size).all fun j => !(Nat.ble p i && Nat.blt j i) || dep ops i j) &&
  (List.range p).all (fun j => Nat.ble p (cs j) || dep ops (cs j) j)
/-- A slot that no operation has written yet when operation i comes up. -/
def freeAt (ops : Array Oper) (p i t : Nat) : Bool := (List.range p).all fun k => Nat.beq k i || dep ops k i || dstOf ops k != some t
def noDst (ops : Array Oper) (p t : Nat) : Bool := (List.range p).all fun k => dstOf ops k != some t
/-- What an operation comes to, its call with it. -/
def opStep (P : Program) (o : Oper) (τ : Tm) (w : World) (K : Value → World → Prop) : Prop :=
  match (execOp (ev τ) o).run P w with
  | .ok (.value v) w' => K v w'
  | .ok .skip w' => K undef w'
  | .ok (.enter g args) w' => Calls P g args w' fun e w'' => ∃ v, e = .returned v ∧ K v w''
  | _ => False
theorem opStep.val {P : Program} {o : Oper} {τ : Tm} {w w' : World} {K : Value → World → Prop} {v : Value} (hr : (execOp (ev τ) o).run P w = .ok (.value v) w') (h : K v w') : opStep P o τ w K := by
  unfold opStep
  rw [hr]
  exact h
theorem opStep.call {P : Program} {o : Oper} {τ : Tm} {w w' : World} {K : Value → World → Prop} {g : FuncId} {args : Array Value} {R' : Ending → World → Prop} (hr : (execOp (ev τ) o).run P w = .ok (.enter g args) w') (hc : Calls P g args w' R')
    (h : ∀ e w'', R' e w'' → ∃ v, e = .returned v ∧ K v w'') : opStep P o τ w K := by
  unfold opStep
  rw [hr]
  exact hc.mono h
theorem beq_iff {a b : Nat} : Nat.beq a b = true ↔ a = b := ⟨Nat.eq_of_beq_eq_true, fun h => by rw [h]; exact Nat.beq_refl b⟩

section
variable {P : Program} {f : FuncId} {n : Nat} {R : Ending → World → Prop} {k : List Item} {τ : Tm} {w0 w : World} {S0 : Fp} {ops : Array Oper}
/-- What operation i is asked. -/
def Ob (P : Program) (ops : Array Oper) (p : Nat) (cs : Nat → Nat) (pre : Nat → List Asn) (Q : Nat → Value → List Asn → Prop) (L0 : List Asn) (w0 : World) (S0 : Fp) (τ : Tm) (i : Nat) : Prop :=
  ∃ o, ops[i]? = some o ∧ ∀ (τ' : Tm) (w' : World) (Lp : Nat → List Asn) (Rest : List Asn), (∀ t, freeAt ops p i t = true → τ' t = τ t) → (∀ j, dep ops i j = true → Q j (dstv ops j τ') (Lp j)) →
    St w0 S0 (L0 ++ (pre i ++ ((List.range p).filter (fun j => Nat.beq (cs j) i)).flatMap Lp) ++ Rest) w' →
    (Region.wanted o (yieldT ops τ') = true → opStep P o τ' w' fun v w'' => ∃ Lq, Q i v Lq ∧ St w0 S0 (L0 ++ Lq ++ Rest) w'') ∧
    (Region.wanted o (yieldT ops τ') = false → ∃ Lq, Q i undef Lq ∧ St w0 S0 (L0 ++ Lq ++ Rest) w')
structure MixInv (ops : Array Oper) (p : Nat) (cs : Nat → Nat) (pre : Nat → List Asn) (Q : Nat → Value → List Asn → Prop) (L0 : List Asn) (w0 : World) (S0 : Fp) (τ : Tm) (l : Array Bool) (τ' : Tm) (w' : World) (Lp : Nat → List Asn) : Prop where
  q : ∀ i, i < p → l.getD i false = true → Q i (dstv ops i τ') (Lp i)
  frame : ∀ t, (∀ i, i < p → l.getD i false = true → dstOf ops i ≠ some t) → τ' t = τ t
  dc : ∀ i, l.getD i false = true → ∀ j, dep ops i j = true → l.getD j false = true
  st : St w0 S0 (L0 ++ (List.range p).flatMap (fun j => if l.getD j false = true then (if l.getD (cs j) false = true then [] else Lp j) else pre j)) w'
theorem ready_spec {l : Array Bool} (hl : l.size = ops.size) {i : Nat} (h : i ∈ Region.ready .any ops l) : i < ops.size ∧ l.getD i false = false ∧ ∀ j, dep ops i j = true → l.getD j false = true := by
  unfold Region.ready at h
  rw [List.mem_filter] at h
  obtain ⟨h1, h2⟩ := h
  have hi : i < ops.size := List.mem_range.1 h1
  simp only [Bool.and_eq_true] at h2
  obtain ⟨h2, h3⟩ := h2
  have hil : i < l.size := by omega
  refine ⟨hi, ?_, fun j hj => ?_⟩
  · simpa [Array.getD_eq_getD_getElem?, hil] using h2
  · unfold dep at hj
    rw [Array.getElem?_eq_getElem hi] at h3 hj
    simp only [Option.map_some, Option.getD_some, Array.all_eq_true'] at h3
    simp only [Array.any_eq_true'] at hj
    obtain ⟨e, he, hb⟩ := hj
    simp only [Bool.and_eq_true, beq_iff_eq] at hb
    have := h3 e he
    rw [hb.1] at this
    simpa [hb.2] using this
theorem ready_mk {l : Array Bool} (hl : l.size = ops.size) {i : Nat} (hi : i < ops.size) (h0 : l.getD i false = false) (h : ∀ j, dep ops i j = true → l.getD j false = true) : i ∈ Region.ready .any ops l := by
  unfold Region.ready
  rw [List.mem_filter]
  refine ⟨List.mem_range.2 hi, ?_⟩
  have hil : i < l.size := by omega
  simp only [Bool.and_eq_true]
  refine ⟨?_, ?_⟩
  · simpa [Array.getD_eq_getD_getElem?, hil] using h0
  · rw [Array.getElem?_eq_getElem hi]
    simp only [Option.map_some, Option.getD_some, Array.all_eq_true']
    intro e he
    cases hb : Region.binds .any e with
    | false => rfl
    | true =>
      simp only [Bool.not_true, Bool.false_or]
      refine h e.on ?_
      unfold dep
      rw [Array.getElem?_eq_getElem hi]
      simp only [Array.any_eq_true']
      exact ⟨e, he, by simp [hb]⟩
theorem getD_set {l : Array Bool} {i : Nat} (hi : i < l.size) (j : Nat) : (l.setIfInBounds i true).getD j false = (Nat.beq j i || l.getD j false) := by
  simp only [Array.getD_eq_getD_getElem?, Array.getElem?_setIfInBounds]
  by_cases e : i = j
  · subst e
    simp [hi]
  · rw [if_neg e]
    have : Nat.beq j i = false := by
      cases h : Nat.beq j i with
      | false => rfl
      | true => exact absurd (Nat.eq_of_beq_eq_true h).symm e
    rw [this, Bool.false_or]
structure MixOK (n : Nat) (ops : Array Oper) (p : Nat) (cs : Nat → Nat) : Prop where
  le : p ≤ ops.size
  dst : ∀ i, i < p → ∃ d, dstOf ops i = some d ∧ d < n ∧ ∀ j, j < p → j ≠ i → dstOf ops j ≠ some d
  lt : ∀ i j, dep ops i j = true → j < i
  all : ∀ i j, p ≤ i → i < ops.size → j < i → dep ops i j = true
  cs : ∀ j, j < p → p ≤ cs j ∨ dep ops (cs j) j = true
theorem mixOK_spec {p : Nat} {cs : Nat → Nat} (h : mixOK n ops p cs = true) (hlt : ∀ i j, dep ops i j = true → j < ops.size) : MixOK n ops p cs := by
  unfold mixOK at h
  simp only [Bool.and_eq_true, List.all_eq_true, List.mem_range, Bool.or_eq_true, Bool.not_eq_true', Nat.ble_eq, Nat.blt_eq] at h
  obtain ⟨⟨⟨⟨h1, h2⟩, h3⟩, h4⟩, h5⟩ := h
  have hi : ∀ i j, dep ops i j = true → i < ops.size := fun i j hd => by
    unfold dep at hd
    cases he : ops[i]? with
    | none => rw [he] at hd; simp at hd
    | some o => exact (Array.getElem?_eq_some_iff.1 he).1
  refine ⟨h1, fun i hip => ?_, fun i j hd => ?_, fun i j hpi him hji => ?_, fun j hj => ?_⟩
  · have := h2 i hip
    split at this
    · rename_i d hd
      refine ⟨d, hd, ?_, fun j hj hne => ?_⟩
      · simp only [Bool.and_eq_true, Nat.blt_eq] at this; exact this.1
      · simp only [Bool.and_eq_true, List.all_eq_true, List.mem_range, Bool.or_eq_true, bne_iff_ne] at this
        rcases this.2 j hj with h | h
        · exact absurd (Nat.eq_of_beq_eq_true h).symm hne
        · exact h
    · cases this
  · rcases h3 i (hi i j hd) j (hlt i j hd) with h | h
    · rw [hd] at h; cases h
    · exact h
  · rcases h4 i him j (by omega) with h | h
    · simp only [Bool.and_eq_false_iff] at h
      rcases h with h | h
      · have : Nat.ble p i = true := ble_i.2 hpi
        rw [this] at h; cases h
      · have : Nat.blt j i = true := blt_i.2 hji
        rw [this] at h; cases h
    · exact h
  · exact h5 j hj
theorem wp_seq_any {Qe : Exit → Act → World → Prop} {p : Nat} {cs : Nat → Nat} (hok : MixOK n ops p cs) : ∀ (d q fuel : Nat) (l : Array Bool) (a : Act) (w : World), q + d = ops.size → p ≤ q → d ≤ fuel → l.size = ops.size → (∀ j, j < ops.size → l.getD j false = Nat.blt j q) →
    wpOps P ops Qe (List.range' q d) a w → wpAny P .any ops Qe fuel l a w := by
  intro d
  induction d with
  | zero =>
    intro q fuel l a w hq hp hf hl hall h
    have hr : Region.ready .any ops l = [] := by
      cases hc : Region.ready .any ops l with
      | nil => rfl
      | cons i xs =>
        have hi : i ∈ Region.ready .any ops l := by rw [hc]; exact List.mem_cons_self
        obtain ⟨h1, h2, _⟩ := ready_spec hl hi
        rw [hall i h1] at h2
        have : Nat.blt i q = true := blt_i.2 (by omega)
        rw [this] at h2; cases h2
    have hQ : Qe .normal a w := by simpa [wpOps] using h
    cases fuel with
    | zero => exact ⟨hr, hQ⟩
    | succ fuel => exact ⟨fun _ => hQ, fun i hi => by rw [hr] at hi; cases hi⟩
  | succ d ih =>
    intro q fuel l a w hq hp hf hl hall h
    obtain ⟨fuel, rfl⟩ : ∃ m, fuel = m + 1 := ⟨fuel - 1, by omega⟩
    have hql : l.getD q false = false := by
      rw [hall q (by omega)]
      cases hb : Nat.blt q q with
      | false => rfl
      | true => have := blt_i.1 hb; omega
    refine ⟨fun h0 => ?_, fun i hi => ?_⟩
    · have : q ∈ Region.ready .any ops l := ready_mk hl (by omega) hql fun j hj => by
        have := hok.lt q j hj
        rw [hall j (by omega)]
        exact blt_i.2 this
      rw [h0] at this; cases this
    · obtain ⟨h1, h2, h3⟩ := ready_spec hl hi
      have hiq : i = q := by
        rw [hall i h1] at h2
        have hge : q ≤ i := by
          rcases Nat.lt_or_ge i q with h | h
          · rw [blt_i.2 h] at h2; cases h2
          · exact h
        rcases Nat.lt_or_ge q i with h | h
        · have := h3 q (hok.all i q (by omega) h1 h)
          rw [hql] at this; cases this
        · omega
      subst hiq
      rw [List.range'_succ, wpOps_cons] at h
      refine wpOp_mono (fun a' w' h' => ih (i + 1) fuel _ a' w' (by omega) (by omega) (by omega) (by simpa using hl) (fun j hj => ?_) h') h
      rw [getD_set (by omega), hall j hj]
      cases hb : Nat.beq j i with
      | true =>
        have := Nat.eq_of_beq_eq_true hb
        subst this
        exact (blt_i.2 (by omega)).symm
      | false =>
        have hne : j ≠ i := fun e => by rw [e, Nat.beq_refl] at hb; cases hb
        cases hb2 : Nat.blt j i with
        | true => have := blt_i.1 hb2; exact (blt_i.2 (by omega)).symm
        | false =>
          cases hb3 : Nat.blt j (i + 1) with
          | false => rfl
          | true =>
            have := blt_i.1 hb3
            have : Nat.blt j i = true := blt_i.2 (by omega)
            rw [this] at hb2; cases hb2
theorem mix_step {p : Nat} {cs : Nat → Nat} {pre : Nat → List Asn} {Q : Nat → Value → List Asn → Prop} {L0 : List Asn} (hok : MixOK n ops p cs)
    {Qe : Exit → Act → World → Prop} (hob : ∀ i, i < p → Ob P ops p cs pre Q L0 w0 S0 τ i)
    (hfin : ∀ (a : Act) (τ' : Tm) (w' : World) (Lp : Nat → List Asn), Agree a n τ' → (∀ i, i < p → Q i (dstv ops i τ') (Lp i)) → (∀ t, noDst ops p t = true → τ' t = τ t) → St w0 S0 (L0 ++ ((List.range p).filter (fun j => Nat.ble p (cs j))).flatMap Lp) w' →
      wpOps P ops Qe (List.range' p (ops.size - p)) a w') :
    ∀ (m fuel : Nat) (l : Array Bool) (a : Act) (τ' : Tm) (w' : World) (Lp : Nat → List Asn), l.size = ops.size → Agree a n τ' → MixInv ops p cs pre Q L0 w0 S0 τ l τ' w' Lp → (∀ i, p ≤ i → l.getD i false = false) →
      (((List.range p).filter fun i => !l.getD i false).length ≤ m) → m + (ops.size - p) ≤ fuel → wpAny P .any ops Qe fuel l a w' := by
  intro m
  induction m with
  | zero =>
    intro fuel l a τ' w' Lp hl ha hI hge hcnt hf
    have hall : ∀ i, i < p → l.getD i false = true := fun i hi => by
      have hnil := List.eq_nil_of_length_eq_zero (Nat.le_zero.1 hcnt)
      cases hb : l.getD i false with
      | true => rfl
      | false =>
        have : i ∈ (List.range p).filter fun i => !l.getD i false := List.mem_filter.2 ⟨List.mem_range.2 hi, by simp [hb]⟩
        rw [hnil] at this; cases this
    refine wp_seq_any hok (ops.size - p) p fuel l a w' (by have := hok.le; omega) (Nat.le_refl _) (by omega) hl (fun j hj => ?_) (hfin a τ' w' Lp ha (fun i hi => hI.q i hi (hall i hi)) (fun t ht => hI.frame t fun i hi _ => ?_) ?_)
    · rcases Nat.lt_or_ge j p with h | h
      · rw [hall j h]; exact (blt_i.2 h).symm
      · rw [hge j h]
        cases hb : Nat.blt j p with
        | false => rfl
        | true => have := blt_i.1 hb; omega
    · unfold noDst at ht
      have := List.all_eq_true.1 ht i (List.mem_range.2 hi)
      simpa using this
    · have hst := hI.st
      rw [fm_congr (g := fun j => if Nat.ble p (cs j) = true then Lp j else []) (List.range p) (fun j hj => ?_), fm_filter] at hst
      · exact hst
      · have hjp := List.mem_range.1 hj
        rw [if_pos (hall j hjp)]
        rcases Nat.lt_or_ge (cs j) p with h | h
        · rw [if_pos (hall _ h), if_neg (fun hb => by have := ble_i.1 hb; omega)]
        · rw [if_neg (by rw [hge _ h]; simp), if_pos (ble_i.2 h)]
  | succ m ih =>
    intro fuel l a τ' w' Lp hl ha hI hge hcnt hf
    obtain ⟨fuel, rfl⟩ : ∃ q, fuel = q + 1 := ⟨fuel - 1, by omega⟩
    have hple := hok.le
    -- the least one not listed
    by_cases hne : (List.range p).filter (fun i => !l.getD i false) = []
    · exact ih (fuel + 1) l a τ' w' Lp hl ha hI hge (by rw [hne]; exact Nat.zero_le _) (by omega)
    obtain ⟨i0, hi0, hi0l, hi0m⟩ : ∃ i, i < p ∧ l.getD i false = false ∧ ∀ j, j < i → l.getD j false = true := by
      have key : ∀ q, q ≤ p → (∀ j, j < q → l.getD j false = true) ∨ ∃ i, i < p ∧ l.getD i false = false ∧ ∀ j, j < i → l.getD j false = true := by
        intro q
        induction q with
        | zero => exact fun _ => .inl fun j hj => absurd hj (Nat.not_lt_zero _)
        | succ q ihq =>
          intro hq
          rcases ihq (by omega) with h | h
          · by_cases hb : l.getD q false = true
            · refine .inl fun j hj => ?_
              by_cases e : j = q
              · rw [e]; exact hb
              · exact h j (by omega)
            · exact .inr ⟨q, by omega, by simpa using hb, h⟩
          · exact .inr h
      rcases key p (Nat.le_refl _) with h | h
      · refine absurd ?_ hne
        exact List.filter_eq_nil_iff.2 fun j hj => by simp [h j (List.mem_range.1 hj)]
      · exact h
    refine ⟨fun h0 => ?_, fun i hi => ?_⟩
    · have : i0 ∈ Region.ready .any ops l := ready_mk hl (by omega) hi0l fun j hj => hi0m j (hok.lt i0 j hj)
      rw [h0] at this; cases this
    · obtain ⟨h1, h2, h3⟩ := ready_spec hl hi
      have hip : i < p := by
        rcases Nat.lt_or_ge i p with h | h
        · exact h
        · have := h3 i0 (hok.all i i0 h h1 (by omega))
          rw [hi0l] at this; cases this
      obtain ⟨o, ho, hO⟩ := hob i hip
      obtain ⟨d, hd, hdn, hdu⟩ := hok.dst i hip
      have hod : o.dst = some d := by simpa [dstOf, ho] using hd
      have hcsi : ∀ j, j < p → cs j = i → l.getD j false = true ∧ j ≠ i := fun j hj hc => by
        rcases hok.cs j hj with h | h
        · omega
        · rw [hc] at h
          exact ⟨h3 j h, fun e => by have := hok.lt i j h; omega⟩
      have hcsu : ∀ j, j < p → l.getD j false = false → l.getD (cs j) false = false := fun j hj hlj => by
        rcases hok.cs j hj with h | h
        · exact hge _ h
        · cases hb : l.getD (cs j) false with
          | false => rfl
          | true => have := hI.dc _ hb j h; rw [hlj] at this; cases this
      generalize hRest : (List.range p).flatMap (fun j => if j = i ∨ cs j = i then [] else (if l.getD j false = true then (if l.getD (cs j) false = true then [] else Lp j) else pre j)) = Rest
      have hperm : ((List.range p).flatMap (fun j => if l.getD j false = true then (if l.getD (cs j) false = true then [] else Lp j) else pre j)).Perm ((pre i ++ ((List.range p).filter (fun j => Nat.beq (cs j) i)).flatMap Lp) ++ Rest) := by
        refine (fm_split (g := fun j => if j = i then pre i else if cs j = i then Lp j else []) (h := fun j => if j = i ∨ cs j = i then [] else (if l.getD j false = true then (if l.getD (cs j) false = true then [] else Lp j) else pre j)) (List.range p) (fun j hj => ?_)).trans ?_
        · have hjp := List.mem_range.1 hj
          by_cases e : j = i
          · subst e
            rw [if_neg (by rw [h2]; simp), if_pos rfl, if_pos (.inl rfl), List.append_nil]
          · by_cases e2 : cs j = i
            · have := (hcsi j hjp e2).1
              rw [if_pos this, if_neg (by rw [e2, h2]; simp), if_neg e, if_pos e2, if_pos (.inr e2), List.append_nil]
            · rw [if_neg e, if_neg e2, if_neg (show ¬ (j = i ∨ cs j = i) from fun h => h.elim e e2), List.nil_append]
        · rw [hRest]
          refine List.Perm.append_right _ ?_
          refine (fm_split (g := fun j => if j = i then pre i else []) (h := fun j => if Nat.beq (cs j) i = true then Lp j else []) (List.range p) (fun j hj => ?_)).trans ?_
          · have hjp := List.mem_range.1 hj
            by_cases e : j = i
            · subst e
              have : ¬ Nat.beq (cs j) j = true := fun h => (hcsi j hjp (Nat.eq_of_beq_eq_true h)).2 rfl
              rw [if_pos rfl, if_pos rfl, if_neg this, List.append_nil]
            · rw [if_neg e, if_neg e, List.nil_append]
              by_cases e2 : cs j = i
              · rw [if_pos e2, if_pos (beq_iff.2 e2)]
              · rw [if_neg e2, if_neg (fun h => e2 (beq_iff.1 h))]
          · rw [fm_one _ _ _ hip, fm_filter]
      have hst' : St w0 S0 (L0 ++ (pre i ++ ((List.range p).filter (fun j => Nat.beq (cs j) i)).flatMap Lp) ++ Rest) w' := by
        rw [List.append_assoc]
        exact hI.st.perm (List.Perm.append_left _ hperm)
      have hfree : ∀ t, freeAt ops p i t = true → τ' t = τ t := fun t ht => hI.frame t fun j hj hlj hdj => by
        unfold freeAt at ht
        have := List.all_eq_true.1 ht j (List.mem_range.2 hj)
        simp only [Bool.or_eq_true, bne_iff_ne] at this
        rcases this with (h | h) | h
        · rw [beq_iff.1 h, h2] at hlj; cases hlj
        · have := hI.dc j hlj i h; rw [h2] at this; cases this
        · exact h hdj
      have hdeps : ∀ j, dep ops i j = true → Q j (dstv ops j τ') (Lp j) := fun j hj => hI.q j (by have := hok.lt i j hj; omega) (h3 j hj)
      obtain ⟨hw, hnw⟩ := hO τ' w' Lp Rest hfree hdeps hst'
      -- behind the operation
      have next : ∀ (v : Value) (w'' : World) (Lq : List Asn), Q i v Lq → St w0 S0 (L0 ++ Lq ++ Rest) w'' → wpAny P .any ops Qe fuel (l.setIfInBounds i true) (a.put o.dst v) w'' := by
        intro v w'' Lq hq hst
        have hset := fun j => getD_set (l := l) (i := i) (by omega) j
        have hne : ∀ j, j ≠ i → (l.setIfInBounds i true).getD j false = l.getD j false := fun j e => by
          rw [hset j]
          cases hb : Nat.beq j i with
          | false => rfl
          | true => exact absurd (beq_iff.1 hb) e
        have hself : (l.setIfInBounds i true).getD i false = true := by rw [hset i, Nat.beq_refl]; rfl
        have hupd : ∀ t, t ≠ d → updO τ' o.dst v t = τ' t := fun t e => by
          rw [hod]
          show (bif Nat.beq t d then v else τ' t) = τ' t
          cases hb : Nat.beq t d with
          | false => rfl
          | true => exact absurd (beq_iff.1 hb) e
        refine ih fuel (l.setIfInBounds i true) (a.put o.dst v) (updO τ' o.dst v) w'' (fun j => if j = i then Lq else Lp j) (by simpa using hl) (ha.put_ _ _ (by rw [hod]; simpa [inB, Nat.blt_eq] using hdn)) ⟨fun j hj hlj => ?_, fun t ht => ?_, fun j hlj j2 hd2 => ?_, ?_⟩ (fun j hj => by rw [hne j (by omega)]; exact hge j hj) ?_ (by omega)
        · by_cases e : j = i
          · subst e
            have : dstv ops j (updO τ' o.dst v) = v := by
              unfold dstv
              rw [hd, hod]
              show (bif Nat.beq d d then v else τ' d) = v
              rw [Nat.beq_refl]; rfl
            rw [this, if_pos rfl]
            exact hq
          · rw [hne j e] at hlj
            have : dstv ops j (updO τ' o.dst v) = dstv ops j τ' := by
              unfold dstv
              cases hdj : dstOf ops j with
              | none => rfl
              | some d' => exact hupd d' (fun e2 => hdu j hj e (by rw [hdj, e2]))
            rw [this, if_neg e]
            exact hI.q j hj hlj
        · have htd : t ≠ d := fun e => ht i hip hself (by rw [hd, e])
          rw [hupd t htd]
          exact hI.frame t fun j hj hlj => by
            by_cases e : j = i
            · subst e; rw [h2] at hlj; cases hlj
            · exact ht j hj (by rw [hne j e]; exact hlj)
        · by_cases e : j = i
          · subst e
            have := hok.lt j j2 hd2
            rw [hne j2 (by omega)]
            exact h3 j2 hd2
          · rw [hne j e] at hlj
            have := hI.dc j hlj j2 hd2
            by_cases e2 : j2 = i
            · rw [e2]; exact hself
            · rw [hne j2 e2]; exact this
        · refine hst.perm ?_
          rw [List.append_assoc]
          refine List.Perm.append_left _ ?_
          refine List.Perm.symm ((fm_split (g := fun j => if j = i then Lq else []) (h := fun j => if j = i ∨ cs j = i then [] else (if l.getD j false = true then (if l.getD (cs j) false = true then [] else Lp j) else pre j)) (List.range p) (fun j hj => ?_)).trans ?_)
          · have hjp := List.mem_range.1 hj
            by_cases e : j = i
            · subst e
              have hcne : cs j ≠ j := fun h => (hcsi j hjp h).2 rfl
              rw [if_pos hself, hne _ hcne, if_neg (by rw [hcsu j hjp h2]; simp), if_pos rfl, if_pos rfl, if_pos (.inl rfl), List.append_nil]
            · rw [hne j e, if_neg e, if_neg e, List.nil_append]
              by_cases e2 : cs j = i
              · rw [if_pos (hcsi j hjp e2).1, e2, if_pos hself, if_pos (.inr rfl)]
              · rw [hne _ e2, if_neg (show ¬ (j = i ∨ cs j = i) from fun h => h.elim e e2)]
          · rw [fm_one _ _ _ hip, hRest]
        · have := cnt_lt (c := fun j => !l.getD j false) (c' := fun j => !(l.setIfInBounds i true).getD j false) (fun j hj => ?_) (i := i) (by simp [h2]) (by simp [hself]) (List.range p) (List.mem_range.2 hip)
          · omega
          · by_cases e : j = i
            · subst e; simp [h2]
            · rw [hne j e] at hj; exact hj
      unfold wpOp
      simp only [ho]
      rw [ha.wanted_]
      split
      · rename_i hwt
        refine .inl ?_
        have hs := hw hwt
        unfold opStep at hs
        unfold Oper.wp
        rw [ha.ev_]
        generalize (execOp (ev τ') o).run P w' = r at hs
        cases r with
        | ok nx w1 =>
          cases nx <;> first | (simp only [] at hs; done) | skip
          case value v =>
            obtain ⟨Lq, hq, hst⟩ := hs
            exact next v w1 Lq hq hst
          case skip =>
            obtain ⟨Lq, hq, hst⟩ := hs
            exact next undef w1 Lq hq hst
          case enter g args =>
            refine Calls.mono hs fun e w2 h => ?_
            obtain ⟨v, rfl, Lq, hq, hst⟩ := h
            exact next v w2 Lq hq hst
          all_goals exact hs.elim
        | halt x w1 => exact hs.elim
      · rename_i hwt
        obtain ⟨Lq, hq, hst⟩ := hnw (by simpa using hwt)
        exact next undef w' Lq hq hst
/-- A region that draws its order and makes memory. p: the operations from p on come last, in their order. cs j: who takes what operation j made (p: nobody). pre i: what operation i takes of the state. -/
theorem Run.mix {id : Nat} (p : Nat) (cs : Nat → Nat) (pre : Nat → List Asn) (Q : Nat → Value → List Asn → Prop) (L0 : List Asn) {L : List Asn} (H : St w0 S0 L w) (hm : P.follows .mixedOrders = true) (hL : L = L0 ++ (List.range p).flatMap pre) (hok : mixOK n ops p cs = true) (hlt : (List.range ops.size).all (fun i => match ops[i]? with | some o => o.after.all fun e => Nat.blt e.on ops.size | none => true) = true)
    (hob : ∀ i, i < p → Ob P ops p cs pre Q L0 w0 S0 τ i)
    (hfin : ∀ (τ' : Tm) (w' : World) (Lp : Nat → List Asn), (∀ i, i < p → Q i (dstv ops i τ') (Lp i)) → (∀ t, noDst ops p t = true → τ' t = τ t) → St w0 S0 (L0 ++ ((List.range p).filter (fun j => Nat.ble p (cs j))).flatMap Lp) w' →
      WO P f n R ops k (List.range' p (ops.size - p)) τ' w') : Run P f n R (.code (.region id ops true) :: k) τ w := by
  have hlt' : ∀ i j, dep ops i j = true → j < ops.size := fun i j hd => by
    unfold dep at hd
    cases he : ops[i]? with
    | none => rw [he] at hd; simp at hd
    | some o =>
      rw [he] at hd
      have h1 := List.all_eq_true.1 hlt i (List.mem_range.2 (Array.getElem?_eq_some_iff.1 he).1)
      rw [he] at h1
      simp only [Array.any_eq_true', Array.all_eq_true'] at hd h1
      obtain ⟨e, hm1, hb⟩ := hd
      simp only [Bool.and_eq_true, beq_iff_eq] at hb
      rw [← hb.2]
      exact blt_i.1 (h1 e hm1)
  have hok' := mixOK_spec hok hlt'
  refine Run.of_wp fun a ha => ?_
  refine wp_region_any hm ?_
  have hz : ∀ i, (Array.replicate ops.size false).getD i false = false := fun i => by
    rw [Array.getD_eq_getD_getElem?, Array.getElem?_replicate]
    split <;> rfl
  refine mix_step (τ := τ) (pre := pre) (Q := Q) (L0 := L0) (w0 := w0) (S0 := S0) hok' hob (fun a τ' w' Lp ha h1 h2 h3 => hfin τ' w' Lp h1 h2 h3 a ha) p ops.size _ a τ _ (fun _ => []) (by simp) ha ⟨fun i _ h => absurd h (by rw [hz]; simp), fun t _ => rfl, fun i h => absurd h (by rw [hz]; simp), ?_⟩ (fun i _ => hz i) ?_ (by have := hok'.le; omega)
  · have := H.step (w' := { w with drawn := w.drawn + 1 }) ⟨rfl, rfl, rfl, Nat.le_refl _, fun _ _ => rfl⟩
    rw [hL] at this
    rw [fm_congr (g := pre) (List.range p) (fun j _ => by rw [hz]; rfl)]
    exact this
  · exact Nat.le_trans (List.length_filter_le _ _) (by rw [List.length_range]; exact Nat.le_refl _)
/-- What was made is told behind what stays. -/
theorem St.into {X L0 Rest : List Asn} (H : St w0 S0 (X ++ (L0 ++ Rest)) w) : St w0 S0 (L0 ++ X ++ Rest) w := by
  refine H.perm ?_
  rw [← List.append_assoc]
  exact List.Perm.append_right _ List.perm_append_comm
end
end Go.Proofs.Ytojpimpfpjhflaa.Fw
