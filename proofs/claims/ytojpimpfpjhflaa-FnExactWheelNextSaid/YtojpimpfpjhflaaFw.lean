/- A walk by rules over slots: a machine of one function's own, step by step; nothing of one program. -/
import Derived.Deep.Quiet
import Derived.Below
import Derived.KernelRfl
namespace Go.Proofs.Ytojpimpfpjhflaa.Fw
open Go Go.RowKit
set_option linter.unusedVariables false
set_option linter.unusedSimpArgs false

/-! ### slots -/
abbrev Tm := Nat → Value
def upd (τ : Tm) (d : Nat) (v : Value) : Tm := fun t => bif Nat.beq t d then v else τ t
def updO (τ : Tm) (d : Option Tmp) (v : Value) : Tm := match d with
  | some d => upd τ d v
  | none => τ
def ev (τ : Tm) : Operand → Value
  | .tmp t => τ t
  | .const v => v
  | .global g => .pointer (some ⟨g, 0, none⟩)
  | .func f => .func (.func f) #[] #[]
structure Agree (a : Act) (n : Nat) (τ : Tm) : Prop where
  size : a.tmps.size = n
  at_ : ∀ t, a.tmps.getD t undef = τ t
  defers : a.defers = []
theorem Agree.ev_ {a : Act} {n : Nat} {τ : Tm} (h : Agree a n τ) : a.eval = ev τ := by
  funext x
  cases x <;> simp [Act.eval, ev, h.at_]
def inB (n : Nat) : Option Tmp → Bool
  | some d => Nat.blt d n
  | none => true
theorem Agree.put_ {a : Act} {n : Nat} {τ : Tm} (h : Agree a n τ) (d : Option Tmp) (v : Value) (hd : inB n d = true) : Agree (a.put d v) n (updO τ d v) := by
  cases d with
  | none => exact h
  | some d =>
    have hd' : d < n := by simpa [inB, Nat.blt_eq] using hd
    refine ⟨by simp [Act.put, h.size], fun t => ?_, h.defers⟩
    simp only [Act.put, updO, upd]
    by_cases e : t = d
    · subst e
      simp [h.size, hd', Array.getD_eq_getD_getElem?]
    · have e' : Nat.beq t d = false := by
        cases hb : Nat.beq t d with
        | true => exact absurd (Nat.eq_of_beq_eq_true hb) e
        | false => rfl
      rw [e']
      simp only [cond_false]
      rw [← h.at_ t]
      simp only [Array.getD_eq_getD_getElem?]
      rw [Array.getElem?_setIfInBounds_ne (Ne.symm e)]
def yieldT (ops : Array Oper) (τ : Tm) (j : Nat) : Option Bool :=
  match (ops[j]?).bind (·.dst) with
  | some d => match τ d with
    | .bool b => some b
    | _ => none
  | none => none
theorem Agree.yielded_ {a : Act} {n : Nat} {τ : Tm} (h : Agree a n τ) (ops : Array Oper) (j : Nat) : yielded ops a.tmps j = yieldT ops τ j := by
  unfold yielded yieldT
  cases hd : (ops[j]?).bind (·.dst) with
  | none => rfl
  | some d =>
    simp only [Option.bind_some]
    rw [← h.at_ d]
    rw [Array.getD_eq_getD_getElem?]
    cases he : a.tmps[d]? with
    | none => simp [undef]
    | some v => cases v <;> rfl
theorem Agree.wanted_ {a : Act} {n : Nat} {τ : Tm} (h : Agree a n τ) (ops : Array Oper) (o : Oper) : Region.wanted o (yielded ops a.tmps) = Region.wanted o (yieldT ops τ) := by
  have : yielded ops a.tmps = yieldT ops τ := funext (h.yielded_ ops)
  rw [this]

/-! ### the machine of one function -/
def base (f : FuncId) : Frame := { (default : Frame) with fn := f, kind := .normal }
def Run (P : Program) (f : FuncId) (n : Nat) (R : Ending → World → Prop) (k : List Item) (τ : Tm) (w : World) : Prop :=
  ∀ a, Agree a n τ → ∀ cs, ∃ e w' fr, R e w' ∧ Comes P (lone ((base f).at a k) cs w) (lone fr cs w') e ∧ fr.fn = f ∧ fr.leaving P w' e

section
variable {P : Program} {f : FuncId} {n : Nat} {R : Ending → World → Prop} {k k' : List Item} {τ : Tm} {w : World}
theorem Run.step_ (hs : ∀ a cs, Agree a n τ → step P (lone ((base f).at a k) cs w) = .next (lone ((base f).at a k') cs w)) (h : Run P f n R k' τ w) : Run P f n R k τ w := by
  intro a ha cs
  obtain ⟨e, w', fr, hR, hc, hf, hl⟩ := h a ha cs
  exact ⟨e, w', fr, hR, Comes.of_steps (.one (hs a cs ha)) hc, hf, hl⟩
theorem Run.skip (h : Run P f n R k τ w) : Run P f n R (.code .skip :: k) τ w := Run.step_ (fun _ _ _ => step_skip) h
theorem Run.label {l : Nat} (h : Run P f n R k τ w) : Run P f n R (.code (.label l) :: k) τ w := Run.step_ (fun _ _ _ => step_label) h
theorem Run.blockEnd {id : Nat} (h : Run P f n R k τ w) : Run P f n R (.inBlock id :: k) τ w := Run.step_ (fun _ _ _ => step_inBlock) h
theorem Run.seq {x y : Code} (h : Run P f n R (.code x :: .code y :: k) τ w) : Run P f n R (.code (.seq x y) :: k) τ w := Run.step_ (fun _ _ _ => step_seq) h
theorem Run.block {id : Nat} {c : Code} (h : Run P f n R (.code c :: .inBlock id :: k) τ w) : Run P f n R (.code (.block id c) :: k) τ w := Run.step_ (fun _ _ _ => step_block) h
theorem Run.round {c : Code} (h : Run P f n R (.code c :: .inLoop c :: k) τ w) : Run P f n R (.inLoop c :: k) τ w := Run.step_ (fun _ _ _ => step_inLoop) h
theorem Run.loop {c : Code} (h : Run P f n R (.code c :: .inLoop c :: k) τ w) : Run P f n R (.code (.loop c) :: k) τ w := Run.step_ (fun _ _ _ => step_loop) h
theorem Run.exit {id : Nat} (hx : exitTo id k = some k') (h : Run P f n R k' τ w) : Run P f n R (.code (.exit id) :: k) τ w := Run.step_ (fun _ _ _ => step_exit hx) h
theorem Run.cond {c : Operand} {x y : Code} {t : Bool} (hc : ev τ c = .bool t) (h : Run P f n R (.code (if t then x else y) :: k) τ w) : Run P f n R (.code (.cond c x y) :: k) τ w :=
  Run.step_ (fun a _ ha => step_cond (by rw [ha.ev_]; exact hc)) h
theorem Run.condT {c : Operand} {x y : Code} (hc : ev τ c = .bool true) (h : Run P f n R (.code x :: k) τ w) : Run P f n R (.code (.cond c x y) :: k) τ w := Run.cond hc h
theorem Run.condF {c : Operand} {x y : Code} (hc : ev τ c = .bool false) (h : Run P f n R (.code y :: k) τ w) : Run P f n R (.code (.cond c x y) :: k) τ w := Run.cond hc h
/-- A test: both ways. -/
theorem Run.test {c : Operand} {x y : Code} {p : Prop} [Decidable p] (hc : ev τ c = .bool (decide p)) (ht : p → Run P f n R (.code x :: k) τ w) (hf : ¬ p → Run P f n R (.code y :: k) τ w) : Run P f n R (.code (.cond c x y) :: k) τ w := by
  by_cases hp : p
  · exact Run.condT (by rw [hc, decide_eq_true hp]) (ht hp)
  · exact Run.condF (by rw [hc, decide_eq_false hp]) (hf hp)
theorem Run.testB {c : Operand} {x y : Code} {b : Bool} (hc : ev τ c = .bool b) (ht : b = true → Run P f n R (.code x :: k) τ w) (hf : b = false → Run P f n R (.code y :: k) τ w) : Run P f n R (.code (.cond c x y) :: k) τ w := by
  cases b with
  | true => exact Run.condT hc (ht rfl)
  | false => exact Run.condF hc (hf rfl)

/-- A loop: what holds at each round's head, and a number that each round lowers. -/
theorem Run.loopInv {c : Code} (Inv : Nat → Tm → World → Prop) (m : Nat) (h0 : Inv m τ w)
    (hs : ∀ m τ w, (∀ m' τ' w', m' < m → Inv m' τ' w' → Run P f n R (.inLoop c :: k) τ' w') → Inv m τ w → Run P f n R (.code c :: .inLoop c :: k) τ w) : Run P f n R (.code (.loop c) :: k) τ w := by
  refine Run.loop ?_
  have key : ∀ N m τ w, m < N → Inv m τ w → Run P f n R (.code c :: .inLoop c :: k) τ w := by
    intro N
    induction N with
    | zero => intro m τ w h _; omega
    | succ N ih => exact fun m τ w hm hi => hs m τ w (fun m' τ' w' hlt hi' => Run.round (ih m' τ' w' (by omega) hi')) hi
  exact key (m + 1) m τ w (by omega) h0
/-- Ways that meet again. -/
theorem Run.cut {x : Item} (J : Tm → World → Prop) (h : (∀ τ' w', J τ' w' → Run P f n R k τ' w') → Run P f n R (x :: k) τ w) (hk : ∀ τ' w', J τ' w' → Run P f n R k τ' w') : Run P f n R (x :: k) τ w := h hk
/-- What is known of the slots, and nothing else. -/
theorem Run.forget (J : Tm → World → Prop) (h : J τ w) (hk : ∀ τ' w', J τ' w' → Run P f n R k τ' w') : Run P f n R k τ w := hk τ w h

/-! ### regions -/
def Qr (P : Program) (f : FuncId) (n : Nat) (R : Ending → World → Prop) (k : List Item) : Exit → Act → World → Prop
  | .normal, a, w => ∃ τ, Agree a n τ ∧ Run P f n R k τ w
  | _, _, _ => False
def WO (P : Program) (f : FuncId) (n : Nat) (R : Ending → World → Prop) (ops : Array Oper) (k : List Item) (l : List Nat) (τ : Tm) (w : World) : Prop :=
  ∀ a, Agree a n τ → wpOps P ops (Qr P f n R k) l a w
theorem Run.of_wp {c : Code} (h : ∀ a, Agree a n τ → c.wp P (Qr P f n R k) a w) : Run P f n R (.code c :: k) τ w := by
  intro a ha cs
  obtain ⟨e, a', w', hq, harr⟩ := h a ha (base f) k cs
  cases e with
  | normal =>
    obtain ⟨τ', ha', hr⟩ := hq
    obtain ⟨e2, w2, fr, hR, hc, hf, hl⟩ := hr a' ha' cs
    exact ⟨e2, w2, fr, hR, Comes.of_steps harr hc, hf, hl⟩
  | _ => exact hq.elim
theorem Run.region {id : Nat} {ops : Array Oper} (h : WO P f n R ops k (List.range ops.size) τ w) : Run P f n R (.code (.region id ops false) :: k) τ w :=
  Run.of_wp fun a ha => wp_region (h a ha)
theorem Run.regionL {id : Nat} {ops : Array Oper} (l : List Nat) (hl : List.range ops.size = l) (h : WO P f n R ops k l τ w) : Run P f n R (.code (.region id ops false) :: k) τ w :=
  Run.region (hl ▸ h)
section
variable {ops : Array Oper} {i : Nat} {rest : List Nat}
theorem WO.done (h : Run P f n R k τ w) : WO P f n R ops k [] τ w := fun a ha => ⟨τ, ha, h⟩
/-- One operation that yields a value. -/
theorem WO.val {o : Oper} {v : Value} {w' : World} (ho : ops[i]? = some o) (hg : Region.wanted o (yieldT ops τ) = true) (hd : inB n o.dst = true)
    (hr : (execOp (ev τ) o).run P w = .ok (.value v) w') (h : WO P f n R ops k rest (updO τ o.dst v) w') : WO P f n R ops k (i :: rest) τ w := by
  intro a ha
  unfold wpOps
  simp only [ho]
  rw [ha.wanted_, if_pos hg]
  refine .inl ?_
  unfold Oper.wp
  rw [ha.ev_, hr]
  exact h _ (ha.put_ _ _ hd)
theorem WO.unit {o : Oper} {w' : World} (ho : ops[i]? = some o) (hg : Region.wanted o (yieldT ops τ) = true) (hd : inB n o.dst = true)
    (hr : (execOp (ev τ) o).run P w = .ok .skip w') (h : WO P f n R ops k rest (updO τ o.dst undef) w') : WO P f n R ops k (i :: rest) τ w := by
  intro a ha
  unfold wpOps
  simp only [ho]
  rw [ha.wanted_, if_pos hg]
  refine .inl ?_
  unfold Oper.wp
  rw [ha.ev_, hr]
  exact h _ (ha.put_ _ _ hd)
theorem WO.not {o : Oper} (ho : ops[i]? = some o) (hg : Region.wanted o (yieldT ops τ) = false) (hd : inB n o.dst = true)
    (h : WO P f n R ops k rest (updO τ o.dst undef) w) : WO P f n R ops k (i :: rest) τ w := by
  intro a ha
  unfold wpOps
  simp only [ho]
  rw [ha.wanted_, if_neg (by simp [hg])]
  exact h _ (ha.put_ _ _ hd)
theorem WO.call {o : Oper} {g : FuncId} {args : Array Value} {w' : World} {R' : Ending → World → Prop} (ho : ops[i]? = some o) (hg : Region.wanted o (yieldT ops τ) = true) (hd : inB n o.dst = true)
    (hr : (execOp (ev τ) o).run P w = .ok (.enter g args) w') (hc : Calls P g args w' R')
    (h : ∀ e w2, R' e w2 → ∃ v, e = .returned v ∧ WO P f n R ops k rest (updO τ o.dst v) w2) : WO P f n R ops k (i :: rest) τ w := by
  intro a ha
  unfold wpOps
  simp only [ho]
  rw [ha.wanted_, if_pos hg]
  refine .inl ?_
  unfold Oper.wp
  rw [ha.ev_, hr]
  refine hc.mono fun e w2 h2 => ?_
  obtain ⟨v, rfl, h3⟩ := h e w2 h2
  exact h3 _ (ha.put_ _ _ hd)
end

/-- One operation, its slot named. -/
def okOp (n : Nat) (ops : Array Oper) (τ : Tm) (o : Oper) (d : Nat) (b : Bool) : Bool :=
  (match o.dst with | some d' => Nat.beq d' d | none => false) && Nat.blt d n && (match Region.wanted o (yieldT ops τ), b with | true, true => true | false, false => true | _, _ => false)
def okOp0 (ops : Array Oper) (τ : Tm) (o : Oper) : Bool := (match o.dst with | some _ => false | none => true) && Region.wanted o (yieldT ops τ)
theorem okOp_spec {n : Nat} {ops : Array Oper} {τ : Tm} {o : Oper} {d : Nat} {b : Bool} (h : okOp n ops τ o d b = true) : o.dst = some d ∧ d < n ∧ Region.wanted o (yieldT ops τ) = b := by
  unfold okOp at h
  simp only [Bool.and_eq_true] at h
  obtain ⟨⟨h1, h2⟩, h3⟩ := h
  refine ⟨?_, by simpa [Nat.blt_eq] using h2, ?_⟩
  · cases hd : o.dst with
    | none => rw [hd] at h1; simp at h1
    | some d' => rw [hd] at h1; rw [Nat.eq_of_beq_eq_true h1]
  · cases hw : Region.wanted o (yieldT ops τ) <;> cases b <;> simp_all
section
variable {ops : Array Oper} {i : Nat} {rest : List Nat} {o : Oper}
theorem WO.v (d : Nat) {v : Value} {w' : World} (ho : ops[i]? = some o) (hk : okOp n ops τ o d true = true) (hr : (execOp (ev τ) o).run P w = .ok (.value v) w') (h : WO P f n R ops k rest (upd τ d v) w') : WO P f n R ops k (i :: rest) τ w := by
  obtain ⟨h1, h2, h3⟩ := okOp_spec hk
  exact WO.val ho h3 (by rw [h1]; simpa [inB, Nat.blt_eq] using h2) hr (by rw [h1]; exact h)
theorem WO.x (d : Nat) (ho : ops[i]? = some o) (hk : okOp n ops τ o d false = true) (h : WO P f n R ops k rest (upd τ d undef) w) : WO P f n R ops k (i :: rest) τ w := by
  obtain ⟨h1, h2, h3⟩ := okOp_spec hk
  exact WO.not ho h3 (by rw [h1]; simpa [inB, Nat.blt_eq] using h2) (by rw [h1]; exact h)
theorem WO.u {w' : World} (ho : ops[i]? = some o) (hk : okOp0 ops τ o = true) (hr : (execOp (ev τ) o).run P w = .ok .skip w') (h : WO P f n R ops k rest τ w') : WO P f n R ops k (i :: rest) τ w := by
  unfold okOp0 at hk
  simp only [Bool.and_eq_true] at hk
  have h1 : o.dst = none := by
    cases hd : o.dst with
    | none => rfl
    | some d' => rw [hd] at hk; simp at hk
  exact WO.unit ho hk.2 (by rw [h1]; rfl) hr (by rw [h1]; exact h)
theorem WO.c (d : Nat) {g : FuncId} {args : Array Value} {w' : World} {R' : Ending → World → Prop} (ho : ops[i]? = some o) (hk : okOp n ops τ o d true = true) (hc : Calls P g args w' R') (hr : (execOp (ev τ) o).run P w = .ok (.enter g args) w')
    (h : ∀ e w2, R' e w2 → ∃ v, e = .returned v ∧ WO P f n R ops k rest (upd τ d v) w2) : WO P f n R ops k (i :: rest) τ w := by
  obtain ⟨h1, h2, h3⟩ := okOp_spec hk
  exact WO.call ho h3 (by rw [h1]; simpa [inB, Nat.blt_eq] using h2) hr hc (by rw [h1]; exact h)
end

/-! ### regions that draw their order -/
def WQ (P : Program) (f : FuncId) (n : Nat) (R : Ending → World → Prop) (ops : Array Oper) (C : World → Prop) (k : List Item) (l : List Oper) (τ : Tm) : Prop :=
  ∀ a, Agree a n τ → wpQuiet P ops C (fun a' => ∀ w', C w' → ∃ τ', Agree a' n τ' ∧ Run P f n R k τ' w') l a
theorem Run.quiet {id : Nat} {ops : Array Oper} (C : World → Prop) (hm : P.follows .mixedOrders = true) (hB : Region.lexB .any ops = true) (hC : C { w with drawn := w.drawn + 1 })
    (l : List Oper) (hl : ops.toList = l) (h : WQ P f n R ops C k l τ) : Run P f n R (.code (.region id ops true) :: k) τ w :=
  Run.of_wp fun a ha => wp_region_quiet (C := C) hm hB hC (by rw [hl]; exact h a ha)
section
variable {ops : Array Oper} {C : World → Prop} {o : Oper} {rest : List Oper}
theorem WQ.done (h : ∀ w', C w' → Run P f n R k τ w') : WQ P f n R ops C k [] τ := fun a ha => wpQuiet_nil fun w' hC => ⟨τ, ha, h w' hC⟩
theorem WQ.val {v : Value} (hg : Region.wanted o (yieldT ops τ) = true) (hd : inB n o.dst = true)
    (hr : ∀ w, C w → (execOp (ev τ) o).run P w = .ok (.value v) w) (h : WQ P f n R ops C k rest (updO τ o.dst v)) : WQ P f n R ops C k (o :: rest) τ := by
  intro a ha
  unfold wpQuiet
  rw [ha.wanted_, if_pos hg]
  refine ⟨v, fun w hC => ?_, h _ (ha.put_ _ _ hd)⟩
  unfold Oper.quietAt
  rw [ha.ev_, hr w hC]
  exact ⟨rfl, rfl⟩
theorem WQ.not (hg : Region.wanted o (yieldT ops τ) = false) (hd : inB n o.dst = true) (h : WQ P f n R ops C k rest (updO τ o.dst undef)) : WQ P f n R ops C k (o :: rest) τ := by
  intro a ha
  unfold wpQuiet
  rw [ha.wanted_, if_neg (by simp [hg])]
  exact h _ (ha.put_ _ _ hd)
theorem WQ.call {g : FuncId} {args : Array Value} {v : Value} (hg : Region.wanted o (yieldT ops τ) = true) (hd : inB n o.dst = true)
    (hr : ∀ w, (execOp (ev τ) o).run P w = .ok (.enter g args) w) (hc : ∀ w, C w → Calls P g args w fun e w' => e = .returned v ∧ C w')
    (h : WQ P f n R ops C k rest (updO τ o.dst v)) : WQ P f n R ops C k (o :: rest) τ := by
  intro a ha
  unfold wpQuiet
  rw [ha.wanted_, if_pos hg]
  refine ⟨v, fun w hC => ?_, h _ (ha.put_ _ _ hd)⟩
  unfold Oper.quietAt
  rw [ha.ev_, hr w]
  exact ⟨rfl, hc w hC⟩
end

section
variable {ops : Array Oper} {C : World → Prop} {o : Oper} {rest : List Oper}
theorem WQ.v (d : Nat) {v : Value} (hk : okOp n ops τ o d true = true) (hr : ∀ w, C w → (execOp (ev τ) o).run P w = .ok (.value v) w) (h : WQ P f n R ops C k rest (upd τ d v)) : WQ P f n R ops C k (o :: rest) τ := by
  obtain ⟨h1, h2, h3⟩ := okOp_spec hk
  exact WQ.val h3 (by rw [h1]; simpa [inB, Nat.blt_eq] using h2) hr (by rw [h1]; exact h)
theorem WQ.x (d : Nat) (hk : okOp n ops τ o d false = true) (h : WQ P f n R ops C k rest (upd τ d undef)) : WQ P f n R ops C k (o :: rest) τ := by
  obtain ⟨h1, h2, h3⟩ := okOp_spec hk
  exact WQ.not h3 (by rw [h1]; simpa [inB, Nat.blt_eq] using h2) (by rw [h1]; exact h)
theorem WQ.c (d : Nat) {g : FuncId} {args : Array Value} {v : Value} (hk : okOp n ops τ o d true = true) (hc : ∀ w, C w → Calls P g args w fun e w' => e = .returned v ∧ C w') (hr : ∀ w, (execOp (ev τ) o).run P w = .ok (.enter g args) w)
    (h : WQ P f n R ops C k rest (upd τ d v)) : WQ P f n R ops C k (o :: rest) τ := by
  obtain ⟨h1, h2, h3⟩ := okOp_spec hk
  exact WQ.call h3 (by rw [h1]; simpa [inB, Nat.blt_eq] using h2) hr hc (by rw [h1]; exact h)
end

/-! ### the end, and the beginning -/
theorem Run.ret_ {fn : Func} {v : Value} (hf : P.funcs[f]? = some fn) (hv : ∀ a, Agree a n τ → (results fn a.tmps).run P w = .ok v w) (h : R (.returned v) w) : Run P f n R (.code .ret :: k) τ w := by
  intro a ha cs
  refine ⟨.returned v, w, _, h, Steps.one step_ret, rfl, rfl, ha.defers, rfl, fn, hf, hv a ha⟩
theorem Run.end_ {fn : Func} {v : Value} (hf : P.funcs[f]? = some fn) (hv : ∀ a, Agree a n τ → (results fn a.tmps).run P w = .ok v w) (h : R (.returned v) w) : Run P f n R [] τ w := by
  intro a ha cs
  refine ⟨.returned v, w, _, h, Steps.one step_end, rfl, rfl, ha.defers, rfl, fn, hf, hv a ha⟩
def start (args : Array Value) : Tm := fun t => args.getD t undef
theorem calls_of_run {fn : Func} {c : Code} {args : Array Value} (hf : P.funcs[f]? = some fn) (hb : fn.body = some c) (hn : fn.ntmps = n) (hs : args.size ≤ n)
    (h : Run P f n R [.code c] (start args) w) : Calls P f args w R := by
  intro cs
  have henter : Frame.enter P f args .normal = (base f).at { tmps := args ++ Array.replicate (fn.ntmps - args.size) undef, defers := [] } [.code c] := by
    simp [Frame.enter, Frame.at, hf, hb, base]
  rw [henter]
  refine h _ ⟨by simp [hn]; omega, fun t => ?_, rfl⟩ cs
  simp only [start, Array.getD_eq_getD_getElem?, Array.getElem?_append, Array.getElem?_replicate]
  by_cases h1 : t < args.size
  · simp [h1]
  · by_cases h2 : t - args.size < fn.ntmps - args.size
    · simp [h1, h2]
    · simp [h1, h2]
end
end Go.Proofs.Ytojpimpfpjhflaa.Fw
