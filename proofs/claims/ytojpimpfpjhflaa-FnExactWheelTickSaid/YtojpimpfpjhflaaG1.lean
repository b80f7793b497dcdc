/- The walk's rules: separation over a function's own memory, rows that are owned, regions that draw their order; nothing of one program, no condition. -/
import Derived.Deep.Quiet
import Derived.Below
import Derived.KernelRfl
import Derived.Laws.World
import Derived.Maps.AppendAt
import Derived.Laws.OwnMore
import Derived.Test.YtojpimpfpjhflaaWWords
import Derived.Laws.MakeOwn
import Derived.Orders
import Derived.Laws.StructEq
import Derived.WalkKit
import Derived.ProofKit
import Derived.OpenShut
import Derived.ShutString
import Derived.ChangeOld
import Derived.SizedLaws
import Derived.Deep.Slices
import Derived.Laws.Slices
namespace Go.Proofs.Ytojpimpfpjhflaa.Fw
open Go Go.RowKit
set_option linter.unusedVariables false
set_option linter.unusedSimpArgs false

/-! ### slots -/
abbrev Tm := Nat → Value
def upd (τ : Tm) (d : Nat) (v : Value) : Tm := fun t => bif Nat.beq t d then v else τ t
def updO (τ : Tm) (d : Option Tmp) (v : Value) : Tm := match d with
  | some d => upd τ d v
  | none => τ
def ev (τ : Tm) : Operand → Value
  | .tmp t => τ t
  | .const v => v
  | .global g => .pointer (some ⟨g, 0, none⟩)
  | .func f => .func (.func f) #[] #[]
structure Agree (a : Act) (n : Nat) (τ : Tm) : Prop where
  size : a.tmps.size = n
  at_ : ∀ t, a.tmps.getD t undef = τ t
  defers : a.defers = []
theorem Agree.ev_ {a : Act} {n : Nat} {τ : Tm} (h : Agree a n τ) : a.eval = ev τ := by
  funext x
  cases x <;> simp [Act.eval, ev, h.at_]
def inB (n : Nat) : Option Tmp → Bool
  | some d => Nat.blt d n
  | none => true
theorem Agree.put_ {a : Act} {n : Nat} {τ : Tm} (h : Agree a n τ) (d : Option Tmp) (v : Value) (hd : inB n d = true) : Agree (a.put d v) n (updO τ d v) := by
  cases d with
  | none => exact h
  | some d =>
    have hd' : d < n := by simpa [inB, Nat.blt_eq] using hd
    refine ⟨by simp [Act.put, h.size], fun t => ?_, h.defers⟩
    simp only [Act.put, updO, upd]
    by_cases e : t = d
    · subst e
      simp [h.size, hd', Array.getD_eq_getD_getElem?]
    · have e' : Nat.beq t d = false := by
        cases hb : Nat.beq t d with
        | true => exact absurd (Nat.eq_of_beq_eq_true hb) e
        | false => rfl
      rw [e']
      simp only [cond_false]
      rw [← h.at_ t]
      simp only [Array.getD_eq_getD_getElem?]
      rw [Array.getElem?_setIfInBounds_ne (Ne.symm e)]
def yieldT (ops : Array Oper) (τ : Tm) (j : Nat) : Option Bool :=
  match (ops[j]?).bind (·.dst) with
  | some d => match τ d with
    | .bool b => some b
    | _ => none
  | none => none
theorem Agree.yielded_ {a : Act} {n : Nat} {τ : Tm} (h : Agree a n τ) (ops : Array Oper) (j : Nat) : yielded ops a.tmps j = yieldT ops τ j := by
  unfold yielded yieldT
  cases hd : (ops[j]?).bind (·.dst) with
  | none => rfl
  | some d =>
    simp only [Option.bind_some]
    rw [← h.at_ d]
    rw [Array.getD_eq_getD_getElem?]
    cases he : a.tmps[d]? with
    | none => simp [undef]
    | some v => cases v <;> rfl
theorem Agree.wanted_ {a : Act} {n : Nat} {τ : Tm} (h : Agree a n τ) (ops : Array Oper) (o : Oper) : Region.wanted o (yielded ops a.tmps) = Region.wanted o (yieldT ops τ) := by
  have : yielded ops a.tmps = yieldT ops τ := funext (h.yielded_ ops)
  rw [this]

/-! ### the machine of one function -/
def base (f : FuncId) : Frame := { (default : Frame) with fn := f, kind := .normal }
def Run (P : Program) (f : FuncId) (n : Nat) (R : Ending → World → Prop) (k : List Item) (τ : Tm) (w : World) : Prop :=
  ∀ a, Agree a n τ → ∀ cs, ∃ e w' fr, R e w' ∧ Comes P (lone ((base f).at a k) cs w) (lone fr cs w') e ∧ fr.fn = f ∧ fr.leaving P w' e

section
variable {P : Program} {f : FuncId} {n : Nat} {R : Ending → World → Prop} {k k' : List Item} {τ : Tm} {w : World}
theorem Run.step_ (hs : ∀ a cs, Agree a n τ → step P (lone ((base f).at a k) cs w) = .next (lone ((base f).at a k') cs w)) (h : Run P f n R k' τ w) : Run P f n R k τ w := by
  intro a ha cs
  obtain ⟨e, w', fr, hR, hc, hf, hl⟩ := h a ha cs
  exact ⟨e, w', fr, hR, Comes.of_steps (.one (hs a cs ha)) hc, hf, hl⟩
theorem Run.skip (h : Run P f n R k τ w) : Run P f n R (.code .skip :: k) τ w := Run.step_ (fun _ _ _ => step_skip) h
theorem Run.label {l : Nat} (h : Run P f n R k τ w) : Run P f n R (.code (.label l) :: k) τ w := Run.step_ (fun _ _ _ => step_label) h
theorem Run.blockEnd {id : Nat} (h : Run P f n R k τ w) : Run P f n R (.inBlock id :: k) τ w := Run.step_ (fun _ _ _ => step_inBlock) h
theorem Run.seq {x y : Code} (h : Run P f n R (.code x :: .code y :: k) τ w) : Run P f n R (.code (.seq x y) :: k) τ w := Run.step_ (fun _ _ _ => step_seq) h
theorem Run.block {id : Nat} {c : Code} (h : Run P f n R (.code c :: .inBlock id :: k) τ w) : Run P f n R (.code (.block id c) :: k) τ w := Run.step_ (fun _ _ _ => step_block) h
theorem Run.round {c : Code} (h : Run P f n R (.code c :: .inLoop c :: k) τ w) : Run P f n R (.inLoop c :: k) τ w := Run.step_ (fun _ _ _ => step_inLoop) h
theorem Run.loop {c : Code} (h : Run P f n R (.code c :: .inLoop c :: k) τ w) : Run P f n R (.code (.loop c) :: k) τ w := Run.step_ (fun _ _ _ => step_loop) h
theorem Run.exit {id : Nat} (hx : exitTo id k = some k') (h : Run P f n R k' τ w) : Run P f n R (.code (.exit id) :: k) τ w := Run.step_ (fun _ _ _ => step_exit hx) h
theorem Run.cond {c : Operand} {x y : Code} {t : Bool} (hc : ev τ c = .bool t) (h : Run P f n R (.code (if t then x else y) :: k) τ w) : Run P f n R (.code (.cond c x y) :: k) τ w :=
  Run.step_ (fun a _ ha => step_cond (by rw [ha.ev_]; exact hc)) h
theorem Run.condT {c : Operand} {x y : Code} (hc : ev τ c = .bool true) (h : Run P f n R (.code x :: k) τ w) : Run P f n R (.code (.cond c x y) :: k) τ w := Run.cond hc h
theorem Run.condF {c : Operand} {x y : Code} (hc : ev τ c = .bool false) (h : Run P f n R (.code y :: k) τ w) : Run P f n R (.code (.cond c x y) :: k) τ w := Run.cond hc h
/-- A test: both ways. -/
theorem Run.test {c : Operand} {x y : Code} {p : Prop} [Decidable p] (hc : ev τ c = .bool (decide p)) (ht : p → Run P f n R (.code x :: k) τ w) (hf : ¬ p → Run P f n R (.code y :: k) τ w) : Run P f n R (.code (.cond c x y) :: k) τ w := by
  by_cases hp : p
  · exact Run.condT (by rw [hc, decide_eq_true hp]) (ht hp)
  · exact Run.condF (by rw [hc, decide_eq_false hp]) (hf hp)
theorem Run.testB {c : Operand} {x y : Code} {b : Bool} (hc : ev τ c = .bool b) (ht : b = true → Run P f n R (.code x :: k) τ w) (hf : b = false → Run P f n R (.code y :: k) τ w) : Run P f n R (.code (.cond c x y) :: k) τ w := by
  cases b with
  | true => exact Run.condT hc (ht rfl)
  | false => exact Run.condF hc (hf rfl)

/-- A loop: what holds at each round's head, and a number that each round lowers. -/
theorem Run.loopInv {c : Code} (Inv : Nat → Tm → World → Prop) (m : Nat) (h0 : Inv m τ w)
    (hs : ∀ m τ w, (∀ m' τ' w', m' < m → Inv m' τ' w' → Run P f n R (.inLoop c :: k) τ' w') → Inv m τ w → Run P f n R (.code c :: .inLoop c :: k) τ w) : Run P f n R (.code (.loop c) :: k) τ w := by
  refine Run.loop ?_
  have key : ∀ N m τ w, m < N → Inv m τ w → Run P f n R (.code c :: .inLoop c :: k) τ w := by
    intro N
    induction N with
    | zero => intro m τ w h _; omega
    | succ N ih => exact fun m τ w hm hi => hs m τ w (fun m' τ' w' hlt hi' => Run.round (ih m' τ' w' (by omega) hi')) hi
  exact key (m + 1) m τ w (by omega) h0
/-- Ways that meet again. -/
theorem Run.cut {x : Item} (J : Tm → World → Prop) (h : (∀ τ' w', J τ' w' → Run P f n R k τ' w') → Run P f n R (x :: k) τ w) (hk : ∀ τ' w', J τ' w' → Run P f n R k τ' w') : Run P f n R (x :: k) τ w := h hk
/-- What is known of the slots, and nothing else. -/
theorem Run.forget (J : Tm → World → Prop) (h : J τ w) (hk : ∀ τ' w', J τ' w' → Run P f n R k τ' w') : Run P f n R k τ w := hk τ w h

/-! ### regions -/
def Qr (P : Program) (f : FuncId) (n : Nat) (R : Ending → World → Prop) (k : List Item) : Exit → Act → World → Prop
  | .normal, a, w => ∃ τ, Agree a n τ ∧ Run P f n R k τ w
  | _, _, _ => False
def WO (P : Program) (f : FuncId) (n : Nat) (R : Ending → World → Prop) (ops : Array Oper) (k : List Item) (l : List Nat) (τ : Tm) (w : World) : Prop :=
  ∀ a, Agree a n τ → wpOps P ops (Qr P f n R k) l a w
theorem Run.of_wp {c : Code} (h : ∀ a, Agree a n τ → c.wp P (Qr P f n R k) a w) : Run P f n R (.code c :: k) τ w := by
  intro a ha cs
  obtain ⟨e, a', w', hq, harr⟩ := h a ha (base f) k cs
  cases e with
  | normal =>
    obtain ⟨τ', ha', hr⟩ := hq
    obtain ⟨e2, w2, fr, hR, hc, hf, hl⟩ := hr a' ha' cs
    exact ⟨e2, w2, fr, hR, Comes.of_steps harr hc, hf, hl⟩
  | _ => exact hq.elim
theorem Run.region {id : Nat} {ops : Array Oper} (h : WO P f n R ops k (List.range ops.size) τ w) : Run P f n R (.code (.region id ops false) :: k) τ w :=
  Run.of_wp fun a ha => wp_region (h a ha)
theorem Run.regionL {id : Nat} {ops : Array Oper} (l : List Nat) (hl : List.range ops.size = l) (h : WO P f n R ops k l τ w) : Run P f n R (.code (.region id ops false) :: k) τ w :=
  Run.region (hl ▸ h)
section
variable {ops : Array Oper} {i : Nat} {rest : List Nat}
theorem WO.done (h : Run P f n R k τ w) : WO P f n R ops k [] τ w := fun a ha => ⟨τ, ha, h⟩
/-- One operation that yields a value. -/
theorem WO.val {o : Oper} {v : Value} {w' : World} (ho : ops[i]? = some o) (hg : Region.wanted o (yieldT ops τ) = true) (hd : inB n o.dst = true)
    (hr : (execOp (ev τ) o).run P w = .ok (.value v) w') (h : WO P f n R ops k rest (updO τ o.dst v) w') : WO P f n R ops k (i :: rest) τ w := by
  intro a ha
  unfold wpOps
  simp only [ho]
  rw [ha.wanted_, if_pos hg]
  refine .inl ?_
  unfold Oper.wp
  rw [ha.ev_, hr]
  exact h _ (ha.put_ _ _ hd)
theorem WO.unit {o : Oper} {w' : World} (ho : ops[i]? = some o) (hg : Region.wanted o (yieldT ops τ) = true) (hd : inB n o.dst = true)
    (hr : (execOp (ev τ) o).run P w = .ok .skip w') (h : WO P f n R ops k rest (updO τ o.dst undef) w') : WO P f n R ops k (i :: rest) τ w := by
  intro a ha
  unfold wpOps
  simp only [ho]
  rw [ha.wanted_, if_pos hg]
  refine .inl ?_
  unfold Oper.wp
  rw [ha.ev_, hr]
  exact h _ (ha.put_ _ _ hd)
theorem WO.not {o : Oper} (ho : ops[i]? = some o) (hg : Region.wanted o (yieldT ops τ) = false) (hd : inB n o.dst = true)
    (h : WO P f n R ops k rest (updO τ o.dst undef) w) : WO P f n R ops k (i :: rest) τ w := by
  intro a ha
  unfold wpOps
  simp only [ho]
  rw [ha.wanted_, if_neg (by simp [hg])]
  exact h _ (ha.put_ _ _ hd)
theorem WO.call {o : Oper} {g : FuncId} {args : Array Value} {w' : World} {R' : Ending → World → Prop} (ho : ops[i]? = some o) (hg : Region.wanted o (yieldT ops τ) = true) (hd : inB n o.dst = true)
    (hr : (execOp (ev τ) o).run P w = .ok (.enter g args) w') (hc : Calls P g args w' R')
    (h : ∀ e w2, R' e w2 → ∃ v, e = .returned v ∧ WO P f n R ops k rest (updO τ o.dst v) w2) : WO P f n R ops k (i :: rest) τ w := by
  intro a ha
  unfold wpOps
  simp only [ho]
  rw [ha.wanted_, if_pos hg]
  refine .inl ?_
  unfold Oper.wp
  rw [ha.ev_, hr]
  refine hc.mono fun e w2 h2 => ?_
  obtain ⟨v, rfl, h3⟩ := h e w2 h2
  exact h3 _ (ha.put_ _ _ hd)
end

/-- One operation, its slot named. -/
def okOp (n : Nat) (ops : Array Oper) (τ : Tm) (o : Oper) (d : Nat) (b : Bool) : Bool :=
  (match o.dst with | some d' => Nat.beq d' d | none => false) && Nat.blt d n && (match Region.wanted o (yieldT ops τ), b with | true, true => true | false, false => true | _, _ => false)
def okOp0 (ops : Array Oper) (τ : Tm) (o : Oper) : Bool := (match o.dst with | some _ => false | none => true) && Region.wanted o (yieldT ops τ)
theorem okOp_spec {n : Nat} {ops : Array Oper} {τ : Tm} {o : Oper} {d : Nat} {b : Bool} (h : okOp n ops τ o d b = true) : o.dst = some d ∧ d < n ∧ Region.wanted o (yieldT ops τ) = b := by
  unfold okOp at h
  simp only [Bool.and_eq_true] at h
  obtain ⟨⟨h1, h2⟩, h3⟩ := h
  refine ⟨?_, by simpa [Nat.blt_eq] using h2, ?_⟩
  · cases hd : o.dst with
    | none => rw [hd] at h1; simp at h1
    | some d' => rw [hd] at h1; rw [Nat.eq_of_beq_eq_true h1]
  · cases hw : Region.wanted o (yieldT ops τ) <;> cases b <;> simp_all
section
variable {ops : Array Oper} {i : Nat} {rest : List Nat} {o : Oper}
theorem WO.v (d : Nat) {v : Value} {w' : World} (ho : ops[i]? = some o) (hk : okOp n ops τ o d true = true) (hr : (execOp (ev τ) o).run P w = .ok (.value v) w') (h : WO P f n R ops k rest (upd τ d v) w') : WO P f n R ops k (i :: rest) τ w := by
  obtain ⟨h1, h2, h3⟩ := okOp_spec hk
  exact WO.val ho h3 (by rw [h1]; simpa [inB, Nat.blt_eq] using h2) hr (by rw [h1]; exact h)
theorem WO.x (d : Nat) (ho : ops[i]? = some o) (hk : okOp n ops τ o d false = true) (h : WO P f n R ops k rest (upd τ d undef) w) : WO P f n R ops k (i :: rest) τ w := by
  obtain ⟨h1, h2, h3⟩ := okOp_spec hk
  exact WO.not ho h3 (by rw [h1]; simpa [inB, Nat.blt_eq] using h2) (by rw [h1]; exact h)
theorem WO.u {w' : World} (ho : ops[i]? = some o) (hk : okOp0 ops τ o = true) (hr : (execOp (ev τ) o).run P w = .ok .skip w') (h : WO P f n R ops k rest τ w') : WO P f n R ops k (i :: rest) τ w := by
  unfold okOp0 at hk
  simp only [Bool.and_eq_true] at hk
  have h1 : o.dst = none := by
    cases hd : o.dst with
    | none => rfl
    | some d' => rw [hd] at hk; simp at hk
  exact WO.unit ho hk.2 (by rw [h1]; rfl) hr (by rw [h1]; exact h)
theorem WO.c (d : Nat) {g : FuncId} {args : Array Value} {w' : World} {R' : Ending → World → Prop} (ho : ops[i]? = some o) (hk : okOp n ops τ o d true = true) (hc : Calls P g args w' R') (hr : (execOp (ev τ) o).run P w = .ok (.enter g args) w')
    (h : ∀ e w2, R' e w2 → ∃ v, e = .returned v ∧ WO P f n R ops k rest (upd τ d v) w2) : WO P f n R ops k (i :: rest) τ w := by
  obtain ⟨h1, h2, h3⟩ := okOp_spec hk
  exact WO.call ho h3 (by rw [h1]; simpa [inB, Nat.blt_eq] using h2) hr hc (by rw [h1]; exact h)
end

/-! ### regions that draw their order -/
def WQ (P : Program) (f : FuncId) (n : Nat) (R : Ending → World → Prop) (ops : Array Oper) (C : World → Prop) (k : List Item) (l : List Oper) (τ : Tm) : Prop :=
  ∀ a, Agree a n τ → wpQuiet P ops C (fun a' => ∀ w', C w' → ∃ τ', Agree a' n τ' ∧ Run P f n R k τ' w') l a
theorem Run.quiet {id : Nat} {ops : Array Oper} (C : World → Prop) (hm : P.follows .mixedOrders = true) (hB : Region.lexB .any ops = true) (hC : C { w with drawn := w.drawn + 1 })
    (l : List Oper) (hl : ops.toList = l) (h : WQ P f n R ops C k l τ) : Run P f n R (.code (.region id ops true) :: k) τ w :=
  Run.of_wp fun a ha => wp_region_quiet (C := C) hm hB hC (by rw [hl]; exact h a ha)
section
variable {ops : Array Oper} {C : World → Prop} {o : Oper} {rest : List Oper}
theorem WQ.done (h : ∀ w', C w' → Run P f n R k τ w') : WQ P f n R ops C k [] τ := fun a ha => wpQuiet_nil fun w' hC => ⟨τ, ha, h w' hC⟩
theorem WQ.val {v : Value} (hg : Region.wanted o (yieldT ops τ) = true) (hd : inB n o.dst = true)
    (hr : ∀ w, C w → (execOp (ev τ) o).run P w = .ok (.value v) w) (h : WQ P f n R ops C k rest (updO τ o.dst v)) : WQ P f n R ops C k (o :: rest) τ := by
  intro a ha
  unfold wpQuiet
  rw [ha.wanted_, if_pos hg]
  refine ⟨v, fun w hC => ?_, h _ (ha.put_ _ _ hd)⟩
  unfold Oper.quietAt
  rw [ha.ev_, hr w hC]
  exact ⟨rfl, rfl⟩
theorem WQ.not (hg : Region.wanted o (yieldT ops τ) = false) (hd : inB n o.dst = true) (h : WQ P f n R ops C k rest (updO τ o.dst undef)) : WQ P f n R ops C k (o :: rest) τ := by
  intro a ha
  unfold wpQuiet
  rw [ha.wanted_, if_neg (by simp [hg])]
  exact h _ (ha.put_ _ _ hd)
theorem WQ.call {g : FuncId} {args : Array Value} {v : Value} (hg : Region.wanted o (yieldT ops τ) = true) (hd : inB n o.dst = true)
    (hr : ∀ w, (execOp (ev τ) o).run P w = .ok (.enter g args) w) (hc : ∀ w, C w → Calls P g args w fun e w' => e = .returned v ∧ C w')
    (h : WQ P f n R ops C k rest (updO τ o.dst v)) : WQ P f n R ops C k (o :: rest) τ := by
  intro a ha
  unfold wpQuiet
  rw [ha.wanted_, if_pos hg]
  refine ⟨v, fun w hC => ?_, h _ (ha.put_ _ _ hd)⟩
  unfold Oper.quietAt
  rw [ha.ev_, hr w]
  exact ⟨rfl, hc w hC⟩
end

section
variable {ops : Array Oper} {C : World → Prop} {o : Oper} {rest : List Oper}
theorem WQ.v (d : Nat) {v : Value} (hk : okOp n ops τ o d true = true) (hr : ∀ w, C w → (execOp (ev τ) o).run P w = .ok (.value v) w) (h : WQ P f n R ops C k rest (upd τ d v)) : WQ P f n R ops C k (o :: rest) τ := by
  obtain ⟨h1, h2, h3⟩ := okOp_spec hk
  exact WQ.val h3 (by rw [h1]; simpa [inB, Nat.blt_eq] using h2) hr (by rw [h1]; exact h)
theorem WQ.x (d : Nat) (hk : okOp n ops τ o d false = true) (h : WQ P f n R ops C k rest (upd τ d undef)) : WQ P f n R ops C k (o :: rest) τ := by
  obtain ⟨h1, h2, h3⟩ := okOp_spec hk
  exact WQ.not h3 (by rw [h1]; simpa [inB, Nat.blt_eq] using h2) (by rw [h1]; exact h)
theorem WQ.c (d : Nat) {g : FuncId} {args : Array Value} {v : Value} (hk : okOp n ops τ o d true = true) (hc : ∀ w, C w → Calls P g args w fun e w' => e = .returned v ∧ C w') (hr : ∀ w, (execOp (ev τ) o).run P w = .ok (.enter g args) w)
    (h : WQ P f n R ops C k rest (upd τ d v)) : WQ P f n R ops C k (o :: rest) τ := by
  obtain ⟨h1, h2, h3⟩ := okOp_spec hk
  exact WQ.call h3 (by rw [h1]; simpa [inB, Nat.blt_eq] using h2) hr hc (by rw [h1]; exact h)
end

/-! ### the end, and the beginning -/
theorem Run.ret_ {fn : Func} {v : Value} (hf : P.funcs[f]? = some fn) (hv : ∀ a, Agree a n τ → (results fn a.tmps).run P w = .ok v w) (h : R (.returned v) w) : Run P f n R (.code .ret :: k) τ w := by
  intro a ha cs
  refine ⟨.returned v, w, _, h, Steps.one step_ret, rfl, rfl, ha.defers, rfl, fn, hf, hv a ha⟩
theorem Run.end_ {fn : Func} {v : Value} (hf : P.funcs[f]? = some fn) (hv : ∀ a, Agree a n τ → (results fn a.tmps).run P w = .ok v w) (h : R (.returned v) w) : Run P f n R [] τ w := by
  intro a ha cs
  refine ⟨.returned v, w, _, h, Steps.one step_end, rfl, rfl, ha.defers, rfl, fn, hf, hv a ha⟩
def start (args : Array Value) : Tm := fun t => args.getD t undef
theorem calls_of_run {fn : Func} {c : Code} {args : Array Value} (hf : P.funcs[f]? = some fn) (hb : fn.body = some c) (hn : fn.ntmps = n) (hs : args.size ≤ n)
    (h : Run P f n R [.code c] (start args) w) : Calls P f args w R := by
  intro cs
  have henter : Frame.enter P f args .normal = (base f).at { tmps := args ++ Array.replicate (fn.ntmps - args.size) undef, defers := [] } [.code c] := by
    simp [Frame.enter, Frame.at, hf, hb, base]
  rw [henter]
  refine h _ ⟨by simp [hn]; omega, fun t => ?_, rfl⟩ cs
  simp only [start, Array.getD_eq_getD_getElem?, Array.getElem?_append, Array.getElem?_replicate]
  by_cases h1 : t < args.size
  · simp [h1]
  · by_cases h2 : t - args.size < fn.ntmps - args.size
    · simp [h1, h2]
    · simp [h1, h2]
end
end Go.Proofs.Ytojpimpfpjhflaa.Fw
namespace Go.Proofs.Ytojpimpfpjhflaa.Fw
open Go Go.RowKit
set_option linter.unusedVariables false
set_option linter.unusedSimpArgs false
theorem wrap_in {a : Int} (h0 : -9223372036854775808 ≤ a) (h1 : a ≤ 9223372036854775807) : IntKind.i64.wrap a = a := by
  simp [IntKind.wrap, IntKind.bits, IntKind.signed]; omega
section
variable {P : Program} {ρ : Operand → Value} {o : Oper} {w : World}

/-! ### plain values -/
theorem r_move {x : Operand} {v : Value} (ho : o.op = .move x) (hx : ρ x = v) : (execOp ρ o).run P w = .ok (.value v) w := by subst hx; simp [execOp, ho, pure, Sem.run]
theorem r_assign {x : Operand} {v : Value} (ho : o.op = .assign x) (hx : ρ x = v) : (execOp ρ o).run P w = .ok (.value v) w := by subst hx; simp [execOp, ho, pure, Sem.run]
theorem r_moveI {x : Operand} {kk : IntKind} {a : Int} (ho : o.op = .move x) (hx : ρ x = .int kk a) : (execOp ρ o).run P w = .ok (.value (.int kk a)) w := r_move ho hx
theorem r_assignI {x : Operand} {kk : IntKind} {a : Int} (ho : o.op = .assign x) (hx : ρ x = .int kk a) : (execOp ρ o).run P w = .ok (.value (.int kk a)) w := r_assign ho hx
theorem r_moveB {x : Operand} {a : Bool} (ho : o.op = .move x) (hx : ρ x = .bool a) : (execOp ρ o).run P w = .ok (.value (.bool a)) w := r_move ho hx
theorem r_assignB {x : Operand} {a : Bool} (ho : o.op = .assign x) (hx : ρ x = .bool a) : (execOp ρ o).run P w = .ok (.value (.bool a)) w := r_assign ho hx
theorem r_moveS {x : Operand} {a : ByteArray} (ho : o.op = .move x) (hx : ρ x = .string a) : (execOp ρ o).run P w = .ok (.value (.string a)) w := r_move ho hx
theorem r_assignS {x : Operand} {a : ByteArray} (ho : o.op = .assign x) (hx : ρ x = .string a) : (execOp ρ o).run P w = .ok (.value (.string a)) w := r_assign ho hx
theorem r_moveP {x : Operand} {a : Option Addr} (ho : o.op = .move x) (hx : ρ x = .pointer a) : (execOp ρ o).run P w = .ok (.value (.pointer a)) w := r_move ho hx
theorem r_assignP {x : Operand} {a : Option Addr} (ho : o.op = .assign x) (hx : ρ x = .pointer a) : (execOp ρ o).run P w = .ok (.value (.pointer a)) w := r_assign ho hx
theorem r_moveL {x : Operand} {a : Option Addr} {m c : Nat} (ho : o.op = .move x) (hx : ρ x = .slice a m c) : (execOp ρ o).run P w = .ok (.value (.slice a m c)) w := r_move ho hx
theorem r_assignL {x : Operand} {a : Option Addr} {m c : Nat} (ho : o.op = .assign x) (hx : ρ x = .slice a m c) : (execOp ρ o).run P w = .ok (.value (.slice a m c)) w := r_assign ho hx
theorem r_moveG {x : Operand} {a : Array Value} (ho : o.op = .move x) (hx : ρ x = .agg a) : (execOp ρ o).run P w = .ok (.value (.agg a)) w := r_move ho hx
theorem r_assignG {x : Operand} {a : Array Value} (ho : o.op = .assign x) (hx : ρ x = .agg a) : (execOp ρ o).run P w = .ok (.value (.agg a)) w := r_assign ho hx
theorem r_moveF {x : Operand} {g : Fn} {a b : Array Value} (ho : o.op = .move x) (hx : ρ x = .func g a b) : (execOp ρ o).run P w = .ok (.value (.func g a b)) w := r_move ho hx
theorem r_assignF {x : Operand} {g : Fn} {a b : Array Value} (ho : o.op = .assign x) (hx : ρ x = .func g a b) : (execOp ρ o).run P w = .ok (.value (.func g a b)) w := r_assign ho hx
theorem r_moveM {x : Operand} {a : Option Nat} (ho : o.op = .move x) (hx : ρ x = .map a) : (execOp ρ o).run P w = .ok (.value (.map a)) w := r_move ho hx
theorem r_assignM {x : Operand} {a : Option Nat} (ho : o.op = .assign x) (hx : ρ x = .map a) : (execOp ρ o).run P w = .ok (.value (.map a)) w := r_assign ho hx
theorem r_moveT {x : Operand} {a : Array Value} (ho : o.op = .move x) (hx : ρ x = .tuple a) : (execOp ρ o).run P w = .ok (.value (.tuple a)) w := r_move ho hx
theorem r_assignT {x : Operand} {a : Array Value} (ho : o.op = .assign x) (hx : ρ x = .tuple a) : (execOp ρ o).run P w = .ok (.value (.tuple a)) w := r_assign ho hx
theorem r_pickB {c x y : Operand} {b q : Bool} (ho : o.op = .pick c x y) (hc : ρ c = .bool b) (hv : (if b then ρ x else ρ y) = .bool q) : (execOp ρ o).run P w = .ok (.value (.bool q)) w := by
  rw [← hv]; simp [execOp, ho, hc, asBool, pure, bind, Sem.bind, Sem.run]
theorem r_pick {c x y : Operand} {b : Bool} {v : Value} (ho : o.op = .pick c x y) (hc : ρ c = .bool b) (hv : (if b then ρ x else ρ y) = v) : (execOp ρ o).run P w = .ok (.value v) w := by
  subst hv; simp [execOp, ho, hc, asBool, pure, bind, Sem.bind, Sem.run]
theorem r_not {t : TypeId} {x : Operand} {b q : Bool} (ho : o.op = .unOp .not t x) (hx : ρ x = .bool b) (hq : (!b) = q) : (execOp ρ o).run P w = .ok (.value (.bool q)) w := by
  subst hq; simp [execOp, ho, hx, Op.unary, pure, bind, Sem.bind, Sem.run]
theorem eqGuard_int (op : BinOp) (t : TypeId) (x y : Operand) (k k' : IntKind) (a b : Int) : eqGuard op t x y (.int k a) (.int k' b) = pure () := by
  unfold eqGuard
  split <;> simp_all [pure]
theorem eqGuard_str (op : BinOp) (t : TypeId) (x y : Operand) (a b : ByteArray) : eqGuard op t x y (.string a) (.string b) = pure () := by
  unfold eqGuard
  split <;> simp_all [pure]
theorem eqGuard_bool (op : BinOp) (t : TypeId) (x y : Operand) (a b : Bool) : eqGuard op t x y (.bool a) (.bool b) = pure () := by
  unfold eqGuard
  split <;> simp_all [pure]
section
variable {t t' : TypeId} {x y : Operand} {k : IntKind} {a b c : Int} {q : Bool}
theorem r_add (ho : o.op = .binOp .add t x y t') (hx : ρ x = .int k a) (hy : ρ y = .int k b) (hc : k.wrap (a + b) = c) : (execOp ρ o).run P w = .ok (.value (.int k c)) w := by
  subst hc; simp [execOp, ho, hx, hy, eqGuard_int, binOp, Op.intArith, pure, bind, Sem.bind, Sem.run]
theorem r_sub (ho : o.op = .binOp .sub t x y t') (hx : ρ x = .int k a) (hy : ρ y = .int k b) (hc : k.wrap (a - b) = c) : (execOp ρ o).run P w = .ok (.value (.int k c)) w := by
  subst hc; simp [execOp, ho, hx, hy, eqGuard_int, binOp, Op.intArith, pure, bind, Sem.bind, Sem.run]
theorem r_mul (ho : o.op = .binOp .mul t x y t') (hx : ρ x = .int k a) (hy : ρ y = .int k b) (hc : k.wrap (a * b) = c) : (execOp ρ o).run P w = .ok (.value (.int k c)) w := by
  subst hc; simp [execOp, ho, hx, hy, eqGuard_int, binOp, Op.intArith, pure, bind, Sem.bind, Sem.run]
theorem r_quo (ho : o.op = .binOp .quo t x y t') (hx : ρ x = .int k a) (hy : ρ y = .int k b) (hb : b ≠ 0) (hc : k.wrap (a.tdiv b) = c) : (execOp ρ o).run P w = .ok (.value (.int k c)) w := by
  subst hc; simp [execOp, ho, hx, hy, eqGuard_int, binOp, Op.intDiv, hb, pure, bind, Sem.bind, Sem.run]
theorem r_rem (ho : o.op = .binOp .rem t x y t') (hx : ρ x = .int k a) (hy : ρ y = .int k b) (hb : b ≠ 0) (hc : a.tmod b = c) : (execOp ρ o).run P w = .ok (.value (.int k c)) w := by
  subst hc; simp [execOp, ho, hx, hy, eqGuard_int, binOp, Op.intDiv, hb, pure, bind, Sem.bind, Sem.run]
theorem r_lss (ho : o.op = .binOp .lss t x y t') (hx : ρ x = .int k a) (hy : ρ y = .int k b) (hq : decide (a < b) = q) : (execOp ρ o).run P w = .ok (.value (.bool q)) w := by
  subst hq; simp [execOp, ho, hx, hy, eqGuard_int, binOp, Op.intCmp, pure, bind, Sem.bind, Sem.run]
theorem r_leq (ho : o.op = .binOp .leq t x y t') (hx : ρ x = .int k a) (hy : ρ y = .int k b) (hq : decide (a ≤ b) = q) : (execOp ρ o).run P w = .ok (.value (.bool q)) w := by
  subst hq; simp [execOp, ho, hx, hy, eqGuard_int, binOp, Op.intCmp, pure, bind, Sem.bind, Sem.run]
theorem r_gtr (ho : o.op = .binOp .gtr t x y t') (hx : ρ x = .int k a) (hy : ρ y = .int k b) (hq : decide (b < a) = q) : (execOp ρ o).run P w = .ok (.value (.bool q)) w := by
  subst hq; simp [execOp, ho, hx, hy, eqGuard_int, binOp, Op.intCmp, pure, bind, Sem.bind, Sem.run]
theorem r_geq (ho : o.op = .binOp .geq t x y t') (hx : ρ x = .int k a) (hy : ρ y = .int k b) (hq : decide (b ≤ a) = q) : (execOp ρ o).run P w = .ok (.value (.bool q)) w := by
  subst hq; simp [execOp, ho, hx, hy, eqGuard_int, binOp, Op.intCmp, pure, bind, Sem.bind, Sem.run]
theorem r_eql (ho : o.op = .binOp .eql t x y t') (hx : ρ x = .int k a) (hy : ρ y = .int k b) (hq : decide (a = b) = q) : (execOp ρ o).run P w = .ok (.value (.bool q)) w := by
  subst hq; simp [execOp, ho, hx, hy, eqGuard_int, binOp, Op.intCmp, pure, bind, Sem.bind, Sem.run]; rfl
theorem r_neq (ho : o.op = .binOp .neq t x y t') (hx : ρ x = .int k a) (hy : ρ y = .int k b) (hq : decide (a ≠ b) = q) : (execOp ρ o).run P w = .ok (.value (.bool q)) w := by
  subst hq; simp [execOp, ho, hx, hy, eqGuard_int, binOp, Op.intCmp, pure, bind, Sem.bind, Sem.run]
  cases h : (a != b) <;> simp_all
end
theorem map_arr {α β : Type} (g : α → β) (xs : Array α) : (xs.toList.map g).toArray = xs.map g := by rw [← Array.toList_map]
theorem r_makeFunc {g : Fn} {fs cs : Array Operand} {vf vc : Array Value} (ho : o.op = .makeFunc g fs cs) (hf : (fs.toList.map ρ).toArray = vf) (hc : (cs.toList.map ρ).toArray = vc) : (execOp ρ o).run P w = .ok (.value (.func g vf vc)) w := by
  subst hf hc
  rw [map_arr, map_arr]
  simp [execOp, ho, Instr.makeFunc]
theorem r_nilCheck {x : Operand} {a : Addr} (ho : o.op = .nilCheck x) (hx : ρ x = .pointer (some a)) : (execOp ρ o).run P w = .ok (.value (.pointer (some a))) w := by
  simp [execOp, ho, hx, pure, Sem.run]

/-! ### lengths, addresses -/
theorem run_underlying_ {t : TypeId} {d : TypeDesc} (h : P.underlying t = some d) : (underlying t).run P w = .ok d w := by
  simp [underlying, program, h, pure, bind, Sem.bind, Sem.run]
theorem r_len {t : TypeId} {e : TypeId} {x : Operand} {A : Option Addr} {n c : Nat} (ho : o.op = .call { callee := .builtin .len, args := #[x], argTypes := #[t] }) (hx : ρ x = .slice A n c) (ht : P.underlying t = some (.slice e)) :
    (execOp ρ o).run P w = .ok (.value (.int .i64 n)) w := by
  simp [execOp, ho, resolve, invoke, builtin, Builtin.len_, underlying, program, ht, hx, goInt, pure, bind, Sem.bind, Sem.run]
theorem r_lenStr {t : TypeId} {x : Operand} {s : ByteArray} (ho : o.op = .call { callee := .builtin .len, args := #[x], argTypes := #[t] }) (hx : ρ x = .string s) (ht : P.underlying t = some .string) :
    (execOp ρ o).run P w = .ok (.value (.int .i64 s.size)) w := by
  simp [execOp, ho, resolve, invoke, builtin, Builtin.len_, underlying, program, ht, hx, goInt, pure, bind, Sem.bind, Sem.run]
/-- The address of a field. -/
theorem r_fieldAddr {s : TypeId} {x : Operand} {fi sz : Nat} {fs : Array Field} {fd : Field} {b off : Nat} {q : Nat} (ho : o.op = .fieldAddr s x fi) (hx : ρ x = .pointer (some ⟨b, off, none⟩)) (hs : P.underlying s = some (.struct fs)) (hf : fs[fi]? = some fd)
    (hz : ∀ w, (sizeOf fd.type).run P w = .ok (sz + 1) w) (hq : off + fd.offset = q) : (execOp ρ o).run P w = .ok (.value (.pointer (some ⟨b, q, none⟩))) w := by
  subst hq
  have hu := run_underlying_ (w := w) hs
  have ha : (⟨b, off, none⟩ : Addr).add fd.offset = ⟨b, off + fd.offset, none⟩ := by
    unfold Addr.add; split <;> simp_all
  simp only [execOp, ho, hx, Instr.fieldAt, Instr.sureAddr, fieldPlace, Sem.run_bind, Sem.run_pure, Sem.run_pure', Result.andThen_ok, hu, hf, hz, Nat.succ_ne_zero, Nat.add_eq_zero_iff, Nat.one_ne_zero, and_false, if_false, ha]
theorem r_indexAddr {t e : TypeId} {x ix : Operand} {b off n c sz q : Nat} {k : IntKind} {i : Int} (ho : o.op = .indexAddr t x ix) (hx : ρ x = .slice (some ⟨b, off, none⟩) n c) (hi : ρ ix = .int k i) (ht : P.underlying t = some (.slice e))
    (hz : ∀ w, (sizeOf e).run P w = .ok sz w) (h0 : 0 ≤ i) (h1 : i < n) (hq : off + i.toNat * sz = q) : (execOp ρ o).run P w = .ok (.value (.pointer (some ⟨b, q, none⟩))) w := by
  subst hq
  have hu := run_underlying_ (w := w) ht
  have ha : (⟨b, off, none⟩ : Addr).add (i.toNat * sz) = ⟨b, off + i.toNat * sz, none⟩ := by
    unfold Addr.add; split <;> simp_all
  simp only [execOp, ho, hx, hi, Instr.indexAt, asIntOf, Sem.run_bind, Sem.run_pure, Sem.run_pure', Result.andThen_ok, hu, h0, h1, and_self, if_true, hz, ha]
/-! ### loads, stores, new blocks -/
theorem run_load_ {a : Addr} {v : Value} (hc : w.cell? a = some v) : (load a).run P w = .ok v w := by simp [load, Sem.run, hc]
theorem r_load {t : TypeId} {x : Operand} {a : Addr} {v : Value} (ho : o.op = .load t x) (hx : ρ x = .pointer (some a)) (hA : ∀ w, (isAgg t).run P w = .ok false w) (hc : w.cell? a = some v) : (execOp ρ o).run P w = .ok (.value v) w := by
  simp only [execOp, ho, hx, Instr.loadAt, Instr.sureAddr, loadVar, Sem.run_bind, Sem.run_pure, Sem.run_pure', Result.andThen_ok, hA, Bool.false_eq_true, if_false, run_load_ hc]
theorem run_cellsFrom : ∀ (vs : List Value) (a : Addr) (i : Nat) (acc : Array Value), (∀ j u, vs[j]? = some u → w.cell? (a.add (i + j)) = some u) → (loadCellsFrom a i vs.length acc).run P w = .ok (acc ++ vs.toArray) w
  | [], a, i, acc, h => by simp [loadCellsFrom]
  | v :: vs, a, i, acc, h => by
    have h0 : w.cell? (a.add i) = some v := h 0 v rfl
    have ih := run_cellsFrom vs a (i + 1) (acc.push v) (fun j u hj => by rw [show i + 1 + j = i + (j + 1) from by omega]; exact h (j + 1) u hj)
    simp only [List.length_cons, loadCellsFrom, Sem.run_bind, run_load_ h0, Result.andThen_ok]
    rw [ih]
    simp
theorem r_loadK {t : TypeId} {x : Operand} {a : Addr} {k : Nat} {vs : List Value} (ho : o.op = .load t x) (hx : ρ x = .pointer (some a)) (hA : ∀ w, (isAgg t).run P w = .ok true w) (hz : ∀ w, (sizeOf t).run P w = .ok k w) (hk : vs.length = k)
    (hc : ∀ j u, vs[j]? = some u → w.cell? (a.add j) = some u) : (execOp ρ o).run P w = .ok (.value (.agg vs.toArray)) w := by
  subst hk
  have h := run_cellsFrom (P := P) (w := w) vs a 0 #[] (fun j u hj => by rw [Nat.zero_add]; exact hc j u hj)
  simp only [execOp, ho, hx, Instr.loadAt, Instr.sureAddr, loadVar, loadCells, Sem.run_bind, Sem.run_pure, Sem.run_pure', Result.andThen_ok, hA, if_true, hz, h, Array.empty_append]
/-- A block's cells. -/
def Blk (w : World) (g : Nat) (cs : List Value) (t : TypeId) : Prop := w.heap[g]? = some (.cells cs.toArray t (0, 0))
theorem Blk.cell {g : Nat} {cs : List Value} {t : TypeId} (h : Blk w g cs t) (j : Nat) (u : Value) (hj : cs[j]? = some u) : w.cell? ⟨g, j, none⟩ = some u := by
  unfold Blk at h
  simp [World.cell?, h, hj]
theorem Blk.thaw {g : Nat} {cs : List Value} {t : TypeId} (h : Blk w g cs t) (j : Nat) : w.frozen? ⟨g, j, none⟩ = false := by
  unfold Blk at h
  simp [World.frozen?, h]
theorem Blk.lt {g : Nat} {cs : List Value} {t : TypeId} (h : Blk w g cs t) : g < w.heap.size := (Array.getElem?_eq_some_iff.1 h).1
theorem Blk.below {w' : World} {B g : Nat} {cs : List Value} {t : TypeId} (h : Blk w g cs t) (hb : Below B w w') (hg : g < B) : Blk w' g cs t := (hb.block g hg).trans h
theorem Blk.new (w : World) (cs : List Value) (t : TypeId) : Blk (w.alloc (.cells cs.toArray t)) w.heap.size cs t := by
  show (w.heap.push _)[w.heap.size]? = _
  simp
theorem Blk.alloc {g : Nat} {cs : List Value} {t : TypeId} (h : Blk w g cs t) (ob : Obj) : Blk (w.alloc ob) g cs t := by
  have := h.lt
  unfold Blk at *
  rw [Below.heap_alloc _ _ _ this, h]
theorem Blk.set {g : Nat} {cs : List Value} {t : TypeId} (h : Blk w g cs t) (j : Nat) (u : Value) : Blk (w.setCell ⟨g, j, none⟩ u) g (cs.set j u) t := by
  unfold Blk at *
  simp [World.setCell, Array.getElem?_modify, h]
theorem Blk.far {g : Nat} {cs : List Value} {t : TypeId} (h : Blk w g cs t) (p : Addr) (u : Value) (hne : g ≠ p.block) : Blk (w.setCell p u) g cs t := by
  unfold Blk at *
  rw [Below.heap_setCell _ _ _ _ hne, h]
theorem Blk.drew {g : Nat} {cs : List Value} {t : TypeId} (h : Blk w g cs t) : Blk w.drew g cs t := h
theorem run_store_ {a : Addr} {v u : Value} (h1 : v.oneCell' = true) (hc : w.cell? a = some u) (hf : w.frozen? a = false) : (store a v).run P w = .ok () (w.setCell a v) := by
  cases v <;> first | (simp [store, Sem.run, hc, hf]; done) | simp [Value.oneCell'] at h1
theorem cells_one {v : Value} (h1 : v.oneCell' = true) : v.cells = #[v] := by cases v <;> first | rfl | simp [Value.oneCell'] at h1
theorem r_store {t : TypeId} {x y : Operand} {a : Addr} {v u : Value} (ho : o.op = .store t x y) (hx : ρ x = .pointer (some a)) (hy : ρ y = v) (h1 : v.oneCell' = true) (hz : ∀ w, (sizeOf t).run P w = .ok 1 w)
    (hc : w.cell? a = some u) (hf : w.frozen? a = false) : (execOp ρ o).run P w = .ok .skip (w.setCell a v) := by
  have ha : a.add 0 = a := rfl
  simp only [execOp, ho, hx, hy, Instr.storeAt, Instr.sureAddr, storeVar, cells_one h1, storeCells, ha, Sem.run_bind, Sem.run_pure, Sem.run_pure', Result.andThen_ok, hz, List.size_toArray, List.length_cons, List.length_nil, ne_eq, not_true_eq_false, if_false, run_store_ h1 hc hf, Nat.zero_add]
theorem run_newObj_ (ob : Obj) : (newObj ob).run P w = .ok w.heap.size (w.alloc ob) := rfl
theorem r_box {t : TypeId} {x : Operand} {v : Value} {cs : Array Value} (ho : o.op = .box t x) (hx : ρ x = v) (hcs : v.cells = cs) : (execOp ρ o).run P w = .ok (.value (.pointer (some ⟨w.heap.size, 0, none⟩))) (w.alloc (.cells cs t)) := by
  subst hcs; simp only [execOp, ho, hx, Instr.box, newVar, newRow, Sem.run_bind, Sem.run_pure, Sem.run_pure', Result.andThen_ok, run_newObj_]
theorem r_alloc {t : TypeId} {z : Value} {cs : Array Value} (ho : o.op = .alloc t) (hz : ∀ w, (zeroValue t).run P w = .ok z w) (hcs : z.cells = cs) : (execOp ρ o).run P w = .ok (.value (.pointer (some ⟨w.heap.size, 0, none⟩))) (w.alloc (.cells cs t)) := by
  subst hcs; simp only [execOp, ho, Instr.alloc, newVar, newRow, Sem.run_bind, Sem.run_pure, Sem.run_pure', Result.andThen_ok, run_newObj_, hz]

/-- A struct or an array out of its parts. -/
theorem r_build {t : TypeId} {parts : Array (Nat × Operand)} {pv : Array (Nat × Value)} {v : Value} (ho : o.op = .build t parts) (hb : (Instr.build t pv).run P w = .ok v w) (hp : (parts.toList.map fun p => (p.1, ρ p.2)).toArray = pv) : (execOp ρ o).run P w = .ok (.value v) w := by
  have e : (parts.map fun (i, x) => (i, ρ x)) = pv := by rw [← hp, map_arr]
  simp only [execOp, ho, Sem.run_bind, Sem.run_pure, Sem.run_pure', Result.andThen_ok]
  rw [e, hb]
  rfl

/-! ### calls -/
theorem r_call {g : FuncId} {args : Array Operand} {ts : Array TypeId} {vs : Array Value} (ho : o.op = .call { callee := .value (.func g), args := args, argTypes := ts }) (hρ : ρ (.func g) = .func (.func g) #[] #[]) (hvs : (args.toList.map ρ).toArray = vs) (hg : ∀ args w, (callFunc g args).run P w = .ok (.enter g args) w) :
    (execOp ρ o).run P w = .ok (.enter g vs) w := by
  have e : args.map ρ = vs := by rw [← hvs, map_arr]
  simp [execOp, ho, resolve, Deferred.ofValue, hρ, invoke, Sem.run_bind, hg, e]
theorem r_callV {g : FuncId} {fv : Operand} {args : Array Operand} {ts : Array TypeId} {cap : Array Value} {vs : Array Value} (ho : o.op = .call { callee := .value fv, args := args, argTypes := ts }) (hρ : ρ fv = .func (.func g) #[] cap) (hvs : (args.toList.map ρ).toArray ++ cap = vs) (hg : ∀ args w, (callFunc g args).run P w = .ok (.enter g args) w) :
    (execOp ρ o).run P w = .ok (.enter g vs) w := by
  have e : args.map ρ ++ cap = vs := by rw [← hvs, map_arr]
  simp [execOp, ho, resolve, Deferred.ofValue, hρ, invoke, Sem.run_bind, hg, e]

/-! ### results -/
theorem run_loadVar1 {t : TypeId} {a : Addr} {v : Value} (hA : ∀ w, (isAgg t).run P w = .ok false w) (hc : w.cell? a = some v) : (loadVar t a).run P w = .ok v w := by
  simp only [loadVar, Sem.run_bind, Result.andThen_ok, hA, Bool.false_eq_true, if_false, run_load_ hc]
theorem run_loadVarK {t : TypeId} {a : Addr} {k : Nat} {vs : List Value} (hA : ∀ w, (isAgg t).run P w = .ok true w) (hz : ∀ w, (sizeOf t).run P w = .ok k w) (hk : vs.length = k)
    (hc : ∀ j u, vs[j]? = some u → w.cell? (a.add j) = some u) : (loadVar t a).run P w = .ok (.agg vs.toArray) w := by
  subst hk
  have h := run_cellsFrom (P := P) (w := w) vs a 0 #[] (fun j u hj => by rw [Nat.zero_add]; exact hc j u hj)
  simp only [loadVar, loadCells, Sem.run_bind, Sem.run_pure, Sem.run_pure', Result.andThen_ok, hA, if_true, hz, h, Array.empty_append]
theorem Blk.cells {g : Nat} {cs : List Value} {t : TypeId} (h : Blk w g cs t) (j : Nat) (u : Value) (hj : cs[j]? = some u) : w.cell? ((⟨g, 0, none⟩ : Addr).add j) = some u := by
  have e : (⟨g, 0, none⟩ : Addr).add j = ⟨g, j, none⟩ := by unfold Addr.add; split <;> simp_all
  rw [e]
  exact h.cell j u hj
/-- A result's value. -/
def ResV (P : Program) (w : World) (τ : Tm) : ResultVar → Value → Prop
  | .tmp t, v => τ t = v
  | .cell a t, v => ∃ ad, τ a = .pointer (some ad) ∧ (loadVar t ad).run P w = .ok v w
def resRun (tmps : Array Value) : ResultVar → Sem Value
  | .tmp t => pure (tmps.getD t undef)
  | .cell a t => do loadVar t (← asAddr (tmps.getD a undef))
theorem ResV.run_ {a : Act} {n : Nat} {τ : Tm} {r : ResultVar} {v : Value} (ha : Agree a n τ) (h : ResV P w τ r v) : (resRun a.tmps r).run P w = .ok v w := by
  cases r with
  | tmp t => simp only [resRun, Sem.run_pure, ha.at_]; rw [show τ t = v from h]
  | cell b t =>
    obtain ⟨ad, h1, h2⟩ := h
    simp only [resRun, Sem.run_bind, ha.at_, h1, asAddr, Sem.run_pure, Result.andThen_ok, h2]
theorem results_eq {fn : Func} {tmps : Array Value} : results fn tmps = (do
    let vs ← fn.results.mapM (resRun tmps)
    pure (if h : vs.size = 1 then vs[0] else .tuple vs)) := by
  unfold results
  congr 1
section
variable {f : FuncId} {n : Nat} {R : Ending → World → Prop} {k : List Item} {τ : Tm} {fn : Func} {r1 r2 r3 : ResultVar} {v1 v2 v3 : Value}
theorem res0 (hr : fn.results = #[]) {a : Act} (ha : Agree a n τ) : (results fn a.tmps).run P w = .ok (.tuple #[]) w := by
  rw [results_eq, hr]
  simp [Array.mapM_eq_mapM_toList]
theorem res1 (hr : fn.results = #[r1]) (h1 : ResV P w τ r1 v1) {a : Act} (ha : Agree a n τ) : (results fn a.tmps).run P w = .ok v1 w := by
  rw [results_eq, hr]
  simp [Array.mapM_eq_mapM_toList, h1.run_ ha]
theorem res2 (hr : fn.results = #[r1, r2]) (h1 : ResV P w τ r1 v1) (h2 : ResV P w τ r2 v2) {a : Act} (ha : Agree a n τ) : (results fn a.tmps).run P w = .ok (.tuple #[v1, v2]) w := by
  rw [results_eq, hr]
  simp [Array.mapM_eq_mapM_toList, h1.run_ ha, h2.run_ ha]
theorem res3 (hr : fn.results = #[r1, r2, r3]) (h1 : ResV P w τ r1 v1) (h2 : ResV P w τ r2 v2) (h3 : ResV P w τ r3 v3) {a : Act} (ha : Agree a n τ) : (results fn a.tmps).run P w = .ok (.tuple #[v1, v2, v3]) w := by
  rw [results_eq, hr]
  simp [Array.mapM_eq_mapM_toList, h1.run_ ha, h2.run_ ha, h3.run_ ha]
theorem Run.ret0 (hf : P.funcs[f]? = some fn) (hr : fn.results = #[]) (h : R (.returned (.tuple #[])) w) : Run P f n R (.code .ret :: k) τ w := Run.ret_ hf (fun _ ha => res0 hr ha) h
theorem Run.ret1 (hf : P.funcs[f]? = some fn) (hr : fn.results = #[r1]) (h1 : ResV P w τ r1 v1) (h : R (.returned v1) w) : Run P f n R (.code .ret :: k) τ w := Run.ret_ hf (fun _ ha => res1 hr h1 ha) h
theorem Run.ret2 (hf : P.funcs[f]? = some fn) (hr : fn.results = #[r1, r2]) (h1 : ResV P w τ r1 v1) (h2 : ResV P w τ r2 v2) (h : R (.returned (.tuple #[v1, v2])) w) : Run P f n R (.code .ret :: k) τ w := Run.ret_ hf (fun _ ha => res2 hr h1 h2 ha) h
theorem Run.ret3 (hf : P.funcs[f]? = some fn) (hr : fn.results = #[r1, r2, r3]) (h1 : ResV P w τ r1 v1) (h2 : ResV P w τ r2 v2) (h3 : ResV P w τ r3 v3) (h : R (.returned (.tuple #[v1, v2, v3])) w) : Run P f n R (.code .ret :: k) τ w := Run.ret_ hf (fun _ ha => res3 hr h1 h2 h3 ha) h
theorem Run.end0 (hf : P.funcs[f]? = some fn) (hr : fn.results = #[]) (h : R (.returned (.tuple #[])) w) : Run P f n R [] τ w := Run.end_ hf (fun _ ha => res0 hr ha) h
end
end
end Go.Proofs.Ytojpimpfpjhflaa.Fw
namespace Go.Proofs.Ytojpimpfpjhflaa.Fw
open Go Go.RowKit
set_option linter.unusedVariables false
set_option linter.unusedSimpArgs false

/-! ### what has changed: blocks of S alone -/
structure Mut (S : Nat → Prop) (w w' : World) : Prop where
  os : w'.os = w.os
  tape : w'.tape = w.tape
  output : w'.output = w.output
  size : w.heap.size ≤ w'.heap.size
  block : ∀ k, k < w.heap.size → ¬ S k → w'.heap[k]? = w.heap[k]?
section
variable {S S' : Nat → Prop} {w w' w2 : World}
theorem Mut.refl (w : World) : Mut S w w := ⟨rfl, rfl, rfl, Nat.le_refl _, fun _ _ _ => rfl⟩
theorem Mut.mono (h : Mut S w w') (hs : ∀ k, k < w.heap.size → S k → S' k) : Mut S' w w' := ⟨h.os, h.tape, h.output, h.size, fun k hk hn => h.block k hk fun h' => hn (hs k hk h')⟩
theorem Mut.trans (h : Mut S w w') (h2 : Mut S w' w2) : Mut S w w2 :=
  ⟨h2.os.trans h.os, h2.tape.trans h.tape, h2.output.trans h.output, Nat.le_trans h.size h2.size, fun k hk hn => (h2.block k (Nat.lt_of_lt_of_le hk h.size) hn).trans (h.block k hk hn)⟩
theorem Mut.of_below (h : Below w.heap.size w w') : Mut (fun _ => False) w w' := ⟨h.os, h.tape, h.output, h.size, fun k hk _ => h.block k hk⟩
theorem Mut.below (h : Mut S w w') {B : Nat} (hB : B ≤ w.heap.size) (hs : ∀ k, S k → B ≤ k) : Below B w w' :=
  ⟨h.os, h.tape, h.output, h.size, fun k hk => h.block k (by omega) fun h' => by have := hs k h'; omega⟩
theorem Mut.of_alloc (w : World) (ob : Obj) : Mut (fun _ => False) w (w.alloc ob) := Mut.of_below ((Below.refl _ _).alloc (Nat.le_refl _) _)
theorem Mut.of_set (w : World) (p : Addr) (u : Value) : Mut (fun k => k = p.block) w (w.setCell p u) :=
  ⟨rfl, rfl, rfl, by simp [World.setCell], fun k hk hn => Below.heap_setCell _ _ _ _ hn⟩
theorem Mut.of_grown {row : Option Nat} (h : w.grownBy w' row) : Mut (fun k => some k = row) w w' := ⟨h.os, h.tape, h.output, h.size, fun k hk hn => h.block k hk hn⟩
theorem Below.step {B : Nat} {w0 : World} (h : Below B w0 w) (hm : Mut S w w') (hB : B ≤ w.heap.size) (hs : ∀ k, S k → B ≤ k) : Below B w0 w' := h.trans (hm.below hB hs)
theorem Blk.mut {g : Nat} {cs : List Value} {t : TypeId} (h : Blk w g cs t) (hm : Mut S w w') (hg : ¬ S g) : Blk w' g cs t := (hm.block g h.lt hg).trans h
section
variable {base n size : Nat} {e : TypeId} {v : Value} {xs : List Value}
theorem own_mut (h : w.ownsRow base e size v n xs) (hm : Mut S w w') (hg : ∀ k, v.ownBlock = some k → ¬ S k) : w'.ownsRow base e size v n xs := by
  obtain ⟨h1, h2⟩ := h
  refine ⟨h1, ?_⟩
  rcases h2 with h2 | ⟨g, cap, cur, rfl, hg2, hh, r⟩
  · exact .inl h2
  · exact .inr ⟨g, cap, cur, rfl, hg2, (hm.block g (Array.getElem?_eq_some_iff.1 hh).1 (hg g rfl)).trans hh, r⟩
theorem own_slice_ (h : w.ownsRow base e size v n xs) : ∃ A c, v = .slice A n c ∧ n ≤ c := by
  rcases h.2 with ⟨rfl, rfl⟩ | ⟨g, cap, cur, rfl, _, _, h3, _⟩
  · exact ⟨none, 0, rfl, Nat.le_refl _⟩
  · exact ⟨_, cap, rfl, h3⟩
theorem own_bound (h : w.ownsRow base e size v n xs) : n ≤ 9223372036854775807 := by
  rcases h.2 with ⟨_, rfl⟩ | ⟨g, cap, cur, rfl, _, _, h3, h4, _⟩
  · omega
  · simp only [maxLen] at h4; omega
theorem own_at (h : w.ownsRow base e size v n xs) (hn : 0 < n) : ∃ g c, v = .slice (some ⟨g, 0, none⟩) n c ∧ n ≤ c ∧ base ≤ g ∧ g < w.heap.size ∧ ∀ j u, xs[j]? = some u → w.cell? ⟨g, j, none⟩ = some u := by
  rcases h.2 with ⟨rfl, rfl⟩ | ⟨g, cap, cur, rfl, hb, hh, h3, h4, h5, h6⟩
  · omega
  · refine ⟨g, cap, rfl, h3, hb, (Array.getElem?_eq_some_iff.1 hh).1, fun j u hj => ?_⟩
    rw [← h6, List.getElem?_take] at hj
    split at hj
    · simpa [World.cell?, hh] using hj
    · simp at hj
end
end

/-! ### the walk's rules over them -/
section
variable {P : Program} {f : FuncId} {n : Nat} {R : Ending → World → Prop} {k : List Item} {τ : Tm} {w : World} {ops : Array Oper} {i : Nat} {rest : List Nat} {o : Oper}
theorem WO.box_ (d : Nat) {t : TypeId} {x : Operand} {cs : List Value} (ho : ops[i]? = some o) (hk : okOp n ops τ o d true = true) (hop : o.op = .box t x) (hx : (ev τ x).cells = cs.toArray)
    (h : ∀ g w', g = w.heap.size → w'.heap.size = g + 1 → Blk w' g cs t → Mut (fun _ => False) w w' → WO P f n R ops k rest (upd τ d (.pointer (some ⟨g, 0, none⟩))) w') : WO P f n R ops k (i :: rest) τ w :=
  WO.v d ho hk (r_box hop rfl hx) (h _ _ rfl (by simp) (Blk.new w cs t) (Mut.of_alloc w _))
theorem WO.alloc_ (d : Nat) {t : TypeId} {z : Value} {cs : List Value} (ho : ops[i]? = some o) (hk : okOp n ops τ o d true = true) (hop : o.op = .alloc t) (hz : ∀ w, (zeroValue t).run P w = .ok z w) (hx : z.cells = cs.toArray)
    (h : ∀ g w', g = w.heap.size → w'.heap.size = g + 1 → Blk w' g cs t → Mut (fun _ => False) w w' → WO P f n R ops k rest (upd τ d (.pointer (some ⟨g, 0, none⟩))) w') : WO P f n R ops k (i :: rest) τ w :=
  WO.v d ho hk (r_alloc hop hz hx) (h _ _ rfl (by simp) (Blk.new w cs t) (Mut.of_alloc w _))
theorem WO.store_ {t : TypeId} {x y : Operand} {g j : Nat} {cs : List Value} {t' : TypeId} {v : Value} (ho : ops[i]? = some o) (hk : okOp0 ops τ o = true) (hop : o.op = .store t x y) (hx : ev τ x = .pointer (some ⟨g, j, none⟩)) (hy : ev τ y = v) (h1 : v.oneCell' = true)
    (hz : ∀ w, (sizeOf t).run P w = .ok 1 w) (hb : Blk w g cs t') (hj : j < cs.length)
    (h : ∀ w', w'.heap.size = w.heap.size → Blk w' g (cs.set j v) t' → Mut (fun k => k = g) w w' → WO P f n R ops k rest τ w') : WO P f n R ops k (i :: rest) τ w :=
  WO.u ho hk (r_store hop hx hy h1 hz (hb.cell j _ (List.getElem?_eq_getElem hj)) (hb.thaw j)) (h _ (by simp [World.setCell]) (hb.set j v) (Mut.of_set w ⟨g, j, none⟩ v))
theorem run_storeCells (g : Nat) : ∀ (vs : List Value) (pre old : List Value) (t : TypeId) (w : World), Blk w g (pre ++ old) t → vs.length ≤ old.length → (∀ u ∈ vs, u.oneCell' = true) →
    ∃ w', (storeCells ⟨g, 0, none⟩ vs pre.length).run P w = .ok () w' ∧ w'.heap.size = w.heap.size ∧ Blk w' g (pre ++ vs ++ old.drop vs.length) t ∧ Mut (fun k => k = g) w w'
  | [], pre, old, t, w, hb, _, _ => ⟨w, by simp [storeCells], rfl, by simpa using hb, Mut.refl w⟩
  | v :: vs, pre, [], t, w, hb, hl, _ => by simp at hl
  | v :: vs, pre, u :: old, t, w, hb, hl, h1 => by
    have ha : (⟨g, 0, none⟩ : Addr).add pre.length = ⟨g, pre.length, none⟩ := by unfold Addr.add; split <;> simp_all
    have hc : w.cell? ⟨g, pre.length, none⟩ = some u := hb.cell _ _ (by simp)
    have hb1 := hb.set pre.length v
    rw [show (pre ++ u :: old).set pre.length v = (pre ++ [v]) ++ old by simp] at hb1
    obtain ⟨w', hr, hs, hb2, hm⟩ := run_storeCells g vs (pre ++ [v]) old t _ hb1 (by simpa using hl) (fun x hx => h1 x (List.mem_cons_of_mem _ hx))
    refine ⟨w', ?_, hs.trans (by simp [World.setCell]), by simpa using hb2, (Mut.of_set w ⟨g, pre.length, none⟩ v).trans hm⟩
    simp only [storeCells, Sem.run_bind, ha, run_store_ (h1 v List.mem_cons_self) hc (hb.thaw _), Result.andThen_ok]
    simpa using hr
theorem WO.storeK_ {t : TypeId} {x y : Operand} {g sz : Nat} {cs vs : List Value} {t' : TypeId} {v : Value} (ho : ops[i]? = some o) (hk : okOp0 ops τ o = true) (hop : o.op = .store t x y) (hx : ev τ x = .pointer (some ⟨g, 0, none⟩)) (hy : ev τ y = v) (hv : v.cells = vs.toArray)
    (h1 : ∀ u ∈ vs, u.oneCell' = true) (hz : ∀ w, (sizeOf t).run P w = .ok sz w) (hsz : vs.length = sz) (hb : Blk w g cs t') (hj : cs.length = sz)
    (h : ∀ w', w'.heap.size = w.heap.size → Blk w' g vs t' → Mut (fun k => k = g) w w' → WO P f n R ops k rest τ w') : WO P f n R ops k (i :: rest) τ w := by
  obtain ⟨w', hr, hs, hb2, hm⟩ := run_storeCells (P := P) g vs [] cs t' w hb (by omega) h1
  rw [List.drop_eq_nil_of_le (by omega)] at hb2
  refine WO.u ho hk ?_ (h w' hs (by simpa using hb2) hm)
  have hrun : (storeCells ⟨g, 0, none⟩ vs).run P w = .ok () w' := hr
  simp only [execOp, hop, hx, hy, Instr.storeAt, Instr.sureAddr, storeVar, hv, Sem.run_bind, Sem.run_pure, Sem.run_pure', Result.andThen_ok, hz, List.size_toArray, hsz, ne_eq, not_true_eq_false, if_false, hrun]
/-- append of a row that lies anywhere to a row of the call's own. -/
theorem WO.append_ (d : Nat) {t ty e : TypeId} {inf : TypeInfo} {z : Value} {size bytes base m nn c : Nat} {s x : Operand} {v : Value} {xs news : List Value} {A : Option Addr}
    (ho : ops[i]? = some o) (hk : okOp n ops τ o d true = true) (hop : o.op = .call { callee := .builtin .append, args := #[s, x], argTypes := #[t, t] })
    (ht : P.underlying t = some (.slice e)) (hi : P.info? e = some inf) (hz : inf.zero = some z) (hsize : inf.size = size) (hby : inf.bytes = bytes) (hzs : z.cells.size = size) (hsz : 0 < size)
    (hs : ev τ s = v) (hx : ev τ x = .slice A m c) (hown : w.ownsRow base e size v nn xs) (hl : news.length = m * size) (hA : A = none → m = 0) (hnews : ∀ ad, A = some ad → ∀ j u, news[j]? = some u → w.cell? (ad.add j) = some u)
    (h1 : ∀ u ∈ news, u.oneCell' = true) (hbytes : (nn + m) * bytes ≤ 140737488355328) (hlen : nn + m ≤ 9223372036854775807) (hbase : base ≤ w.heap.size)
    (h : ∀ v' w', w'.ownsRow base e size v' (nn + m) (xs ++ news) → Mut (fun k => some k = v.ownBlock) w w' → (v'.ownBlock = v.ownBlock ∨ v'.ownBlock = some w.heap.size) → WO P f n R ops k rest (upd τ d v') w') : WO P f n R ops k (i :: rest) τ w := by
  have fin : ∀ v' w', (Builtin.append_ #[t, t] o.type #[v, .slice A m c]).run P w = .ok v' w' → (execOp (ev τ) o).run P w = .ok (.value v') w' := fun v' w' hr => by
    simp only [execOp, hop, resolve, invoke, builtin, Sem.run_bind, Sem.run_pure, Sem.run_pure', Result.andThen_ok, List.map_toArray, List.map_cons, List.map_nil, hs, hx, hr]
  cases A with
  | none =>
    have hm := hA rfl
    subst hm
    have hn : news = [] := List.eq_nil_of_length_eq_zero (by simpa using hl)
    subst hn
    refine WO.v d ho hk (fin v w ?_) (h v w (by simpa using hown) (Mut.refl w) (.inl rfl))
    rcases hown.2 with ⟨rfl, h0⟩ | ⟨g, cap, cur, rfl, _, _, hnc, _⟩
    · simp [Builtin.append_, run_underlying ht, sizeOf, typeInfo, hi, Builtin.lenOf, Builtin.firstCells]
    · simp [Builtin.append_, run_underlying ht, sizeOf, typeInfo, hi, Builtin.lenOf, Builtin.firstCells, hnc, storeCells]
  | some ad =>
    obtain ⟨v', w', hr, h2, h3, _, h5⟩ := run_append_own_at (P := P) w base t o.type e inf z size bytes ht hi hz hsize hby hzs hsz v nn xs hown ad m c news hl (hnews ad rfl) h1 (by simp only [maxLen]; omega) hbytes hbase
    exact WO.v d ho hk (fin v' w' hr) (h v' w' h2 (Mut.of_grown h3) h5)
/-- A call of a function by its number. -/
theorem WO.call_ (d : Nat) {g : FuncId} {args : Array Operand} {ts : Array TypeId} {vs : Array Value} {R' : Ending → World → Prop} (ho : ops[i]? = some o) (hk : okOp n ops τ o d true = true) (he : ∀ args w, (callFunc g args).run P w = .ok (.enter g args) w) (hc : Calls P g vs w R')
    (hop : o.op = .call { callee := .value (.func g), args := args, argTypes := ts }) (hvs : (args.toList.map (ev τ)).toArray = vs)
    (h : ∀ e w2, R' e w2 → ∃ v, e = .returned v ∧ WO P f n R ops k rest (upd τ d v) w2) : WO P f n R ops k (i :: rest) τ w :=
  WO.c d ho hk hc (r_call hop rfl hvs he) h
theorem r_extract {x : Operand} {j : Nat} {vs : Array Value} {v : Value} {ρ : Operand → Value} (ho : o.op = .extract x j) (hx : ρ x = .tuple vs) (hv : vs[j]? = some v) : (execOp ρ o).run P w = .ok (.value v) w := by
  simp [execOp, ho, hx, Instr.extract, hv]
end
end Go.Proofs.Ytojpimpfpjhflaa.Fw
namespace Go.Proofs.Ytojpimpfpjhflaa.Fw
open Go Go.RowKit Go.Proofs.YtojpimpfpjhflaaW.PrintWords
set_option linter.unusedVariables false
set_option linter.unusedSimpArgs false

/-! ### resources -/
abbrev Fp := Nat → Prop
structure Asn where
  P : World → Fp → Prop
  stab : ∀ {w w' : World} {S : Fp}, P w S → (∀ k, S k → w'.heap[k]? = w.heap[k]?) → P w' S
  mono : ∀ {w : World} {S S' : Fp}, P w S → (∀ k, S k → S' k) → P w S'
def sl : List Asn → World → Fp → Prop
  | [], _, _ => True
  | A :: L, w, S => ∃ S1 S2 : Fp, A.P w S1 ∧ sl L w S2 ∧ (∀ k, S1 k → S2 k → False) ∧ (∀ k, S1 k → S k) ∧ (∀ k, S2 k → S k)
theorem sl_stab : ∀ {L : List Asn} {w w' : World} {S : Fp}, sl L w S → (∀ k, S k → w'.heap[k]? = w.heap[k]?) → sl L w' S
  | [], _, _, _, _, _ => trivial
  | A :: L, w, w', S, ⟨S1, S2, h1, h2, h3, h4, h5⟩, h => ⟨S1, S2, A.stab h1 fun k hk => h k (h4 k hk), sl_stab h2 fun k hk => h k (h5 k hk), h3, h4, h5⟩
theorem sl_mono : ∀ {L : List Asn} {w : World} {S S' : Fp}, sl L w S → (∀ k, S k → S' k) → sl L w S'
  | [], _, _, _, _, _ => trivial
  | A :: L, w, S, S', ⟨S1, S2, h1, h2, h3, h4, h5⟩, h => ⟨S1, S2, h1, h2, h3, fun k hk => h k (h4 k hk), fun k hk => h k (h5 k hk)⟩
theorem sl_app : ∀ {L1 L2 : List Asn} {w : World} {S1 S2 S : Fp}, sl L1 w S1 → sl L2 w S2 → (∀ k, S1 k → S2 k → False) → (∀ k, S1 k → S k) → (∀ k, S2 k → S k) → sl (L1 ++ L2) w S
  | [], L2, w, S1, S2, S, _, h2, _, _, h5 => sl_mono h2 h5
  | A :: L1, L2, w, S1, S2, S, ⟨T1, T2, g1, g2, g3, g4, g5⟩, h2, h3, h4, h5 =>
    ⟨T1, fun k => T2 k ∨ S2 k, g1, sl_app g2 h2 (fun k a b => h3 k (g5 k a) b) (fun k a => .inl a) (fun k a => .inr a), fun k a b => b.elim (g3 k a) (h3 k (g4 k a)), fun k a => h4 k (g4 k a), fun k a => a.elim (fun a => h4 k (g5 k a)) (h5 k)⟩
/-- One of a list, and the others. -/
inductive Sel : List Asn → Asn → List Asn → Prop
  | h {A : Asn} {L : List Asn} : Sel (A :: L) A L
  | t {A B : Asn} {L F : List Asn} : Sel L A F → Sel (B :: L) A (B :: F)
theorem sl_sel {A : Asn} {L F : List Asn} {w : World} (hs : Sel L A F) : ∀ {S : Fp}, sl L w S → sl (A :: F) w S := by
  induction hs with
  | h => exact fun h => h
  | t _ ih =>
    rintro S ⟨S1, S2, h1, h2, h3, h4, h5⟩
    obtain ⟨T1, T2, g1, g2, g3, g4, g5⟩ := ih h2
    exact ⟨T1, fun k => S1 k ∨ T2 k, g1, ⟨S1, T2, h1, g2, fun k a b => h3 k a (g5 k b), fun k a => .inl a, fun k a => .inr a⟩, fun k a b => b.elim (fun b => h3 k b (g4 k a)) (g3 k a), fun k a => h5 k (g4 k a), fun k a => a.elim (h4 k) fun a => h5 k (g5 k a)⟩
/-- Several of a list, and the others. -/
inductive Sels : List Asn → List Asn → List Asn → Prop
  | n {L : List Asn} : Sels L [] L
  | c {A : Asn} {L F Lc F' : List Asn} : Sel L A F → Sels F Lc F' → Sels L (A :: Lc) F'
theorem sl_sels {L Lc F : List Asn} {w : World} (hs : Sels L Lc F) : ∀ {S : Fp}, sl L w S → ∃ S1 S2 : Fp, sl Lc w S1 ∧ sl F w S2 ∧ (∀ k, S1 k → S2 k → False) ∧ (∀ k, S1 k → S k) ∧ (∀ k, S2 k → S k) := by
  induction hs with
  | n => exact fun {S} h => ⟨fun _ => False, S, trivial, h, fun _ a _ => a, fun _ a => a.elim, fun _ a => a⟩
  | c h1 _ ih =>
    intro S h
    obtain ⟨T1, T2, g1, g2, g3, g4, g5⟩ := sl_sel h1 h
    obtain ⟨S1, S2, e1, e2, e3, e4, e5⟩ := ih g2
    exact ⟨fun k => T1 k ∨ S1 k, S2, ⟨T1, S1, g1, e1, fun k a b => g3 k a (e4 k b), fun k a => .inl a, fun k a => .inr a⟩, e2, fun k a b => a.elim (fun a => g3 k a (e5 k b)) (fun a => e3 k a b), fun k a => a.elim (g4 k) (fun a => g5 k (e4 k a)), fun k a => g5 k (e5 k a)⟩
/-- One of a list, and what the list is with another in its place. -/
inductive U : List Asn → Asn → (Asn → List Asn) → Prop
  | h {A : Asn} {L : List Asn} : U (A :: L) A (fun X => X :: L)
  | t {A B : Asn} {L : List Asn} {K : Asn → List Asn} : U L A K → U (B :: L) A (fun X => B :: K X)
theorem sl_u {A : Asn} {L : List Asn} {K : Asn → List Asn} (hs : U L A K) : ∀ {w : World} {S : Fp}, sl L w S → ∃ S1 S2 : Fp, A.P w S1 ∧ (∀ k, S1 k → S2 k → False) ∧ (∀ k, S1 k → S k) ∧ (∀ k, S2 k → S k) ∧
    ∀ (B : Asn) (w' : World) (S1' : Fp) (S' : Fp), B.P w' S1' → (∀ k, S2 k → w'.heap[k]? = w.heap[k]?) → (∀ k, S1' k → S2 k → False) → (∀ k, S1' k → S' k) → (∀ k, S2 k → S' k) → sl (K B) w' S' := by
  induction hs with
  | h =>
    rintro w S ⟨S1, S2, h1, h2, h3, h4, h5⟩
    exact ⟨S1, S2, h1, h3, h4, h5, fun B w' S1' S' b1 b2 b3 b4 b5 => ⟨S1', S2, b1, sl_stab h2 b2, b3, b4, b5⟩⟩
  | t _ ih =>
    rintro w S ⟨S1, S2, h1, h2, h3, h4, h5⟩
    obtain ⟨T1, T2, g1, g3, g4, g5, g6⟩ := ih h2
    refine ⟨T1, fun k => S1 k ∨ T2 k, g1, fun k a b => b.elim (fun b => h3 k b (g4 k a)) (g3 k a), fun k a => h5 k (g4 k a), fun k a => a.elim (h4 k) fun a => h5 k (g5 k a), fun B w' S1' S' b1 b2 b3 b4 b5 => ?_⟩
    refine ⟨S1, fun k => S1' k ∨ T2 k, Asn.stab _ h1 fun k hk => b2 k (.inl hk), g6 B w' S1' _ b1 (fun k hk => b2 k (.inr hk)) (fun k a b => b3 k a (.inr b)) (fun k a => .inl a) (fun k a => .inr a), fun k a b => b.elim (fun b => b3 k b (.inl a)) (fun b => h3 k a (g5 k b)), fun k a => b5 k (.inl a), fun k a => a.elim (b4 k) (fun a => b5 k (.inr a))⟩
section
variable {A B0 B1 B2 B3 B4 B5 B6 B7 B8 B9 : Asn} {L : List Asn}
theorem p0 : U (A :: L) A (fun X => X :: L) := .h
theorem p1 : U (B0 :: A :: L) A (fun X => B0 :: X :: L) := .t .h
theorem p2 : U (B0 :: B1 :: A :: L) A (fun X => B0 :: B1 :: X :: L) := .t p1
theorem p3 : U (B0 :: B1 :: B2 :: A :: L) A (fun X => B0 :: B1 :: B2 :: X :: L) := .t p2
theorem p4 : U (B0 :: B1 :: B2 :: B3 :: A :: L) A (fun X => B0 :: B1 :: B2 :: B3 :: X :: L) := .t p3
theorem p5 : U (B0 :: B1 :: B2 :: B3 :: B4 :: A :: L) A (fun X => B0 :: B1 :: B2 :: B3 :: B4 :: X :: L) := .t p4
theorem p6 : U (B0 :: B1 :: B2 :: B3 :: B4 :: B5 :: A :: L) A (fun X => B0 :: B1 :: B2 :: B3 :: B4 :: B5 :: X :: L) := .t p5
theorem p7 : U (B0 :: B1 :: B2 :: B3 :: B4 :: B5 :: B6 :: A :: L) A (fun X => B0 :: B1 :: B2 :: B3 :: B4 :: B5 :: B6 :: X :: L) := .t p6
theorem p8 : U (B0 :: B1 :: B2 :: B3 :: B4 :: B5 :: B6 :: B7 :: A :: L) A (fun X => B0 :: B1 :: B2 :: B3 :: B4 :: B5 :: B6 :: B7 :: X :: L) := .t p7
theorem p9 : U (B0 :: B1 :: B2 :: B3 :: B4 :: B5 :: B6 :: B7 :: B8 :: A :: L) A (fun X => B0 :: B1 :: B2 :: B3 :: B4 :: B5 :: B6 :: B7 :: B8 :: X :: L) := .t p8
theorem q0 : Sel (A :: L) A L := .h
theorem q1 : Sel (B0 :: A :: L) A (B0 :: L) := .t .h
theorem q2 : Sel (B0 :: B1 :: A :: L) A (B0 :: B1 :: L) := .t q1
theorem q3 : Sel (B0 :: B1 :: B2 :: A :: L) A (B0 :: B1 :: B2 :: L) := .t q2
theorem q4 : Sel (B0 :: B1 :: B2 :: B3 :: A :: L) A (B0 :: B1 :: B2 :: B3 :: L) := .t q3
theorem q5 : Sel (B0 :: B1 :: B2 :: B3 :: B4 :: A :: L) A (B0 :: B1 :: B2 :: B3 :: B4 :: L) := .t q4
theorem q6 : Sel (B0 :: B1 :: B2 :: B3 :: B4 :: B5 :: A :: L) A (B0 :: B1 :: B2 :: B3 :: B4 :: B5 :: L) := .t q5
theorem q7 : Sel (B0 :: B1 :: B2 :: B3 :: B4 :: B5 :: B6 :: A :: L) A (B0 :: B1 :: B2 :: B3 :: B4 :: B5 :: B6 :: L) := .t q6
theorem q8 : Sel (B0 :: B1 :: B2 :: B3 :: B4 :: B5 :: B6 :: B7 :: A :: L) A (B0 :: B1 :: B2 :: B3 :: B4 :: B5 :: B6 :: B7 :: L) := .t q7
theorem q9 : Sel (B0 :: B1 :: B2 :: B3 :: B4 :: B5 :: B6 :: B7 :: B8 :: A :: L) A (B0 :: B1 :: B2 :: B3 :: B4 :: B5 :: B6 :: B7 :: B8 :: L) := .t q8
end

/-! ### the state -/
structure St (w0 : World) (S0 : Fp) (L : List Asn) (w : World) : Prop where
  chg : Mut S0 w0 w
  own : ∃ S : Fp, sl L w S ∧ ∀ k, S k → k < w.heap.size ∧ (S0 k ∨ w0.heap.size ≤ k)
abbrev Em : Fp := fun _ => False
section
variable {w0 w w' : World} {S0 : Fp} {L L' Lc LQ F : List Asn} {A : Asn} {K : Asn → List Asn} {g : Nat} {cs cs' : List Value} {t : TypeId}
theorem St.start {S : Fp} (h : sl L w S) (hl : ∀ k, S k → k < w.heap.size) : St w S L w := ⟨Mut.refl w, S, h, fun k hk => ⟨hl k hk, .inl hk⟩⟩
theorem St.nil (w : World) : St w Em [] w := St.start trivial (fun _ h => h.elim)
theorem St.below (H : St w0 Em L w) : Below w0.heap.size w0 w := H.chg.below (Nat.le_refl _) (fun _ h => h.elim)
theorem St.size (H : St w0 S0 L w) : w0.heap.size ≤ w.heap.size := H.chg.size
/-- What a part of it does, it does. -/
theorem St.split (H : St w0 S0 L w) (hs : Sels L Lc F) : ∃ S1 : Fp, sl Lc w S1 ∧ (∀ k, S1 k → k < w.heap.size) ∧ ∀ LQ w', St w S1 LQ w' → St w0 S0 (LQ ++ F) w' := by
  obtain ⟨hm, S, h, hl⟩ := H
  obtain ⟨S1, S2, e1, e2, e3, e4, e5⟩ := sl_sels hs h
  refine ⟨S1, e1, fun k hk => (hl k (e4 k hk)).1, fun LQ w' ⟨hm', S', h', hl'⟩ => ⟨?_, fun k => S' k ∨ S2 k, ?_, ?_⟩⟩
  · refine ⟨hm'.os.trans hm.os, hm'.tape.trans hm.tape, hm'.output.trans hm.output, Nat.le_trans hm.size hm'.size, fun k hk hn => (hm'.block k (Nat.lt_of_lt_of_le hk hm.size) fun h1 => ?_).trans (hm.block k hk hn)⟩
    rcases (hl k (e4 k h1)).2 with h2 | h2
    · exact hn h2
    · omega
  · have hd : ∀ k, S' k → S2 k → False := fun k a b => by
      rcases (hl' k a).2 with h1 | h1
      · exact e3 k h1 b
      · have := (hl k (e5 k b)).1
        omega
    exact sl_app h' (sl_stab e2 fun k hk => hm'.block k (hl k (e5 k hk)).1 fun h1 => e3 k h1 hk) hd (fun k a => .inl a) (fun k a => .inr a)
  · rintro k (hk | hk)
    · refine ⟨(hl' k hk).1, ?_⟩
      rcases (hl' k hk).2 with h1 | h1
      · exact (hl k (e4 k h1)).2
      · exact .inr (Nat.le_trans hm.size h1)
    · exact ⟨Nat.lt_of_lt_of_le (hl k (e5 k hk)).1 hm'.size, (hl k (e5 k hk)).2⟩
theorem St.sel (H : St w0 S0 L w) (hs : Sels L Lc F) : St w0 S0 Lc w := by
  obtain ⟨hm, S, h, hl⟩ := H
  obtain ⟨S1, S2, e1, e2, e3, e4, e5⟩ := sl_sels hs h
  exact ⟨hm, S1, e1, fun k hk => hl k (e4 k hk)⟩
/-- Nothing of its own is changed. -/
theorem St.step (H : St w0 S0 L w) (hb : Below w.heap.size w w') : St w0 S0 L w' := by
  obtain ⟨hm, S, h, hl⟩ := H
  exact ⟨hm.trans ((Mut.of_below hb).mono fun _ _ h => h.elim), S, sl_stab h fun k hk => hb.block k (hl k hk).1, fun k hk => ⟨Nat.lt_of_lt_of_le (hl k hk).1 hb.size, (hl k hk).2⟩⟩
theorem St.get (H : St w0 S0 L w) (hu : U L A K) : ∃ S : Fp, A.P w S ∧ ∀ k, S k → k < w.heap.size ∧ (S0 k ∨ w0.heap.size ≤ k) := by
  obtain ⟨hm, S, h, hl⟩ := H
  obtain ⟨S1, S2, g1, g3, g4, g5, g6⟩ := sl_u hu h
  exact ⟨S1, g1, fun k hk => hl k (g4 k hk)⟩
/-- One of its own is turned into another. -/
theorem St.upd {B : Asn} (H : St w0 S0 L w) (hu : U L A K) (h : ∀ S : Fp, A.P w S → (∀ k, S k → k < w.heap.size ∧ (S0 k ∨ w0.heap.size ≤ k)) → Mut S w w' ∧ ∃ S' : Fp, B.P w' S' ∧ ∀ k, S' k → k < w'.heap.size ∧ (S k ∨ w.heap.size ≤ k)) : St w0 S0 (K B) w' := by
  obtain ⟨hm, S, hS, hl⟩ := H
  obtain ⟨S1, S2, g1, g3, g4, g5, g6⟩ := sl_u hu hS
  obtain ⟨hm', S', hB, hl'⟩ := h S1 g1 (fun k hk => hl k (g4 k hk))
  have hd : ∀ k, S' k → S2 k → False := fun k a b => by
    rcases (hl' k a).2 with h1 | h1
    · exact g3 k h1 b
    · have := (hl k (g5 k b)).1
      omega
  refine ⟨?_, fun k => S' k ∨ S2 k, g6 B w' S' _ hB (fun k hk => hm'.block k (hl k (g5 k hk)).1 fun h1 => g3 k h1 hk) hd (fun k a => .inl a) (fun k a => .inr a), ?_⟩
  · refine ⟨hm'.os.trans hm.os, hm'.tape.trans hm.tape, hm'.output.trans hm.output, Nat.le_trans hm.size hm'.size, fun k hk hn => (hm'.block k (Nat.lt_of_lt_of_le hk hm.size) fun h1 => ?_).trans (hm.block k hk hn)⟩
    rcases (hl k (g4 k h1)).2 with h2 | h2
    · exact hn h2
    · omega
  · rintro k (hk | hk)
    · refine ⟨(hl' k hk).1, ?_⟩
      rcases (hl' k hk).2 with h1 | h1
      · exact (hl k (g4 k h1)).2
      · exact .inr (Nat.le_trans hm.size h1)
    · exact ⟨Nat.lt_of_lt_of_le (hl k (g5 k hk)).1 hm'.size, (hl k (g5 k hk)).2⟩
/-- One more of its own. -/
theorem St.new {B : Asn} (H : St w0 S0 L w) (hm' : Mut Em w w') {S' : Fp} (hB : B.P w' S') (hl' : ∀ k, S' k → k < w'.heap.size ∧ w.heap.size ≤ k) : St w0 S0 (B :: L) w' := by
  obtain ⟨hm, S, hS, hl⟩ := H
  refine ⟨hm.trans (hm'.mono fun _ _ h => h.elim), fun k => S' k ∨ S k, ⟨S', S, hB, sl_stab hS fun k hk => hm'.block k (hl k hk).1 fun h => h, fun k a b => ?_, fun k a => .inl a, fun k a => .inr a⟩, ?_⟩
  · have := (hl' k a).2
    have := (hl k b).1
    omega
  · rintro k (hk | hk)
    · exact ⟨(hl' k hk).1, .inr (Nat.le_trans hm.size (hl' k hk).2)⟩
    · exact ⟨Nat.lt_of_lt_of_le (hl k hk).1 hm'.size, (hl k hk).2⟩
/-- The same memory, otherwise told. -/
theorem St.imp {B : Asn} (H : St w0 S0 L w) (hu : U L A K) (h : ∀ S : Fp, A.P w S → (∀ k, S k → k < w.heap.size) → B.P w S) : St w0 S0 (K B) w :=
  H.upd hu fun S hA hl => ⟨Mut.refl w |>.mono fun _ _ h => h, S, h S hA (fun k hk => (hl k hk).1), fun k hk => ⟨(hl k hk).1, .inl hk⟩⟩
theorem St.emp {B : Asn} (H : St w0 S0 L w) (h : B.P w Em) : St w0 S0 (B :: L) w := H.new (Mut.refl w) h (fun _ h => h.elim)

/-! ### blocks -/
def Bk (g : Nat) (cs : List Value) (t : TypeId) : Asn where
  P := fun w S => Blk w g cs t ∧ S g
  stab := fun h hk => ⟨(hk g h.2).trans h.1, h.2⟩
  mono := fun h hk => ⟨h.1, hk g h.2⟩
theorem St.blk (H : St w0 S0 L w) (hu : U L (Bk g cs t) K) : Blk w g cs t := (H.get hu).elim fun _ h => h.1.1
theorem St.cell {j : Nat} {v : Value} (H : St w0 S0 L w) (hu : U L (Bk g cs t) K) (hj : cs[j]? = some v) : w.cell? ⟨g, j, none⟩ = some v := (H.blk hu).cell j v hj
theorem St.cells (H : St w0 S0 L w) (hu : U L (Bk g cs t) K) (j : Nat) (u : Value) (hj : cs[j]? = some u) : w.cell? ((⟨g, 0, none⟩ : Addr).add j) = some u := (H.blk hu).cells j u hj
theorem St.part {off n : Nat} (H : St w0 S0 L w) (hu : U L (Bk g cs t) K) (j : Nat) (u : Value) (hj : ((cs.drop off).take n)[j]? = some u) : w.cell? ((⟨g, off, none⟩ : Addr).add j) = some u := by
  have e : (⟨g, off, none⟩ : Addr).add j = ⟨g, off + j, none⟩ := by unfold Addr.add; split <;> simp_all
  rw [e]
  refine (H.blk hu).cell _ _ ?_
  rw [List.getElem?_take] at hj
  split at hj
  · rwa [List.getElem?_drop] at hj
  · simp at hj
theorem St.lt (H : St w0 S0 L w) (hu : U L (Bk g cs t) K) : g < w.heap.size := (H.blk hu).lt
theorem St.block_new (H : St w0 S0 L w) (hb : Blk w' w.heap.size cs t) (hs : w'.heap.size = w.heap.size + 1) (hm : Mut Em w w') : St w0 S0 (Bk w.heap.size cs t :: L) w' :=
  H.new (B := Bk w.heap.size cs t) hm (S' := fun k => k = w.heap.size) ⟨hb, rfl⟩ (fun k hk => by subst hk; omega)
theorem St.block_set (H : St w0 S0 L w) (hu : U L (Bk g cs t) K) (hb : Blk w' g cs' t) (hm : Mut (fun k => k = g) w w') : St w0 S0 (K (Bk g cs' t)) w' :=
  H.upd hu fun S hA hl => ⟨hm.mono fun k _ hk => by subst hk; exact hA.2, fun k => k = g, ⟨hb, rfl⟩, fun k hk => by subst hk; exact ⟨hb.lt, .inl hA.2⟩⟩
end

/-! ### one cell, or some, of a block's, put -/
inductive Put : List Value → Nat → Value → List Value → Prop
  | z {x v : Value} {xs : List Value} : Put (x :: xs) 0 v (v :: xs)
  | s {x v : Value} {xs ys : List Value} {j : Nat} : Put xs j v ys → Put (x :: xs) (j + 1) v (x :: ys)
theorem Put.set {cs cs' : List Value} {j : Nat} {v : Value} (h : Put cs j v cs') : cs' = cs.set j v ∧ j < cs.length := by
  induction h with
  | z => simp
  | s _ ih => simp [ih.1, ih.2]

/-! ### the walk's rules -/
section
variable {P : Program} {f : FuncId} {n : Nat} {R : Ending → World → Prop} {k : List Item} {τ : Tm} {w0 w : World} {S0 : Fp} {L Lc F : List Asn} {K : Asn → List Asn} {ops : Array Oper} {i : Nat} {rest : List Nat} {o : Oper}
theorem WO.sbox (d : Nat) {t : TypeId} {x : Operand} {cs : List Value} (ho : ops[i]? = some o) (hk : okOp n ops τ o d true = true) (hop : o.op = .box t x) (hx : (ev τ x).cells = cs.toArray) (H : St w0 S0 L w)
    (h : ∀ g w', St w0 S0 (Bk g cs t :: L) w' → WO P f n R ops k rest (upd τ d (.pointer (some ⟨g, 0, none⟩))) w') : WO P f n R ops k (i :: rest) τ w :=
  WO.box_ d ho hk hop hx fun g w' hg hs hb hm => by subst hg; exact h _ _ (H.block_new hb hs hm)
theorem WO.salloc (d : Nat) {t : TypeId} {z : Value} {cs : List Value} (ho : ops[i]? = some o) (hk : okOp n ops τ o d true = true) (hop : o.op = .alloc t) (hz : ∀ w, (zeroValue t).run P w = .ok z w) (hx : z.cells = cs.toArray) (H : St w0 S0 L w)
    (h : ∀ g w', St w0 S0 (Bk g cs t :: L) w' → WO P f n R ops k rest (upd τ d (.pointer (some ⟨g, 0, none⟩))) w') : WO P f n R ops k (i :: rest) τ w :=
  WO.alloc_ d ho hk hop hz hx fun g w' hg hs hb hm => by subst hg; exact h _ _ (H.block_new hb hs hm)
theorem WO.sstore {t : TypeId} {x y : Operand} {g j : Nat} {cs cs' : List Value} {t' : TypeId} {v : Value} (ho : ops[i]? = some o) (hk : okOp0 ops τ o = true) (hop : o.op = .store t x y) (hx : ev τ x = .pointer (some ⟨g, j, none⟩)) (hy : ev τ y = v) (h1 : v.oneCell' = true)
    (hz : ∀ w, (sizeOf t).run P w = .ok 1 w) (H : St w0 S0 L w) (hu : U L (Bk g cs t') K) (hp : Put cs j v cs')
    (h : ∀ w', St w0 S0 (K (Bk g cs' t')) w' → WO P f n R ops k rest τ w') : WO P f n R ops k (i :: rest) τ w :=
  WO.store_ ho hk hop hx hy h1 hz (H.blk hu) hp.set.2 fun w' hs hb hm => h w' (H.block_set hu (by rw [hp.set.1]; exact hb) hm)
theorem WO.sstoreK {t : TypeId} {x y : Operand} {g sz : Nat} {cs vs : List Value} {t' : TypeId} {v : Value} (ho : ops[i]? = some o) (hk : okOp0 ops τ o = true) (hop : o.op = .store t x y) (hx : ev τ x = .pointer (some ⟨g, 0, none⟩)) (hy : ev τ y = v) (hv : v.cells = vs.toArray)
    (h1 : vs.all (fun u => u.oneCell') = true) (hz : ∀ w, (sizeOf t).run P w = .ok sz w) (hsz : vs.length = sz) (H : St w0 S0 L w) (hu : U L (Bk g cs t') K) (hj : cs.length = sz)
    (h : ∀ w', St w0 S0 (K (Bk g vs t')) w' → WO P f n R ops k rest τ w') : WO P f n R ops k (i :: rest) τ w :=
  WO.storeK_ ho hk hop hx hy hv (fun u hu => by simpa using List.all_eq_true.1 h1 u hu) hz hsz (H.blk hu) hj fun w' hs hb hm => h w' (H.block_set hu hb hm)

/-! ### calls -/
/-- What a function does with memory that it is given. -/
def Tri (P : Program) (f : FuncId) (args : Array Value) (w : World) (L : List Asn) (Q : Ending → List Asn → Prop) : Prop :=
  ∀ S : Fp, sl L w S → (∀ k, S k → k < w.heap.size) → Calls P f args w fun e w' => ∃ LQ, Q e LQ ∧ St w S LQ w'
theorem Tri.mono {args : Array Value} {Q Q' : Ending → List Asn → Prop} (h : Tri P f args w L Q) (hq : ∀ e l, Q e l → Q' e l) : Tri P f args w L Q' :=
  fun S hS hl => (h S hS hl).mono fun e w' ⟨LQ, h1, h2⟩ => ⟨LQ, hq e LQ h1, h2⟩
theorem tri_of_run {fn : Func} {c : Code} {args : Array Value} {Q : Ending → List Asn → Prop} (hf : P.funcs[f]? = some fn) (hb : fn.body = some c) (hn : fn.ntmps = n) (hs : args.size ≤ n)
    (h : ∀ S, St w S L w → Run P f n (fun e w' => ∃ LQ, Q e LQ ∧ St w S LQ w') [.code c] (start args) w) : Tri P f args w L Q :=
  fun S hS hl => calls_of_run hf hb hn hs (h S (St.start hS hl))
theorem Mut.em {w w' : World} {S : Fp} (h : Mut Em w w') : Mut S w w' := h.mono fun _ _ h => h.elim
/-- A function that is given nothing. -/
theorem tri_of_run0 {fn : Func} {c : Code} {args : Array Value} {Q : Ending → List Asn → Prop} (hf : P.funcs[f]? = some fn) (hb : fn.body = some c) (hn : fn.ntmps = n) (hs : args.size ≤ n)
    (h : St w Em [] w → Run P f n (fun e w' => ∃ LQ, Q e LQ ∧ St w Em LQ w') [.code c] (start args) w) : Tri P f args w [] Q :=
  fun S hS hl => (calls_of_run hf hb hn hs (h (St.nil w))).mono fun e w' ⟨LQ, h1, h2, S', h3, h4⟩ => ⟨LQ, h1, h2.em, S', h3, fun k hk => ⟨(h4 k hk).1, (h4 k hk).2.elim (fun h => h.elim) .inr⟩⟩
/-- A reading function's contract. -/
theorem Tri.calls {args : Array Value} {Q : Ending → List Asn → Prop} (h : Tri P f args w [] Q) : Calls P f args w fun e w' => ∃ LQ, Q e LQ ∧ St w Em LQ w' := h Em trivial (fun _ h => h.elim)
theorem Calls.use {g : FuncId} {vs : Array Value} {Q : Ending → List Asn → Prop} (H : St w0 S0 L w) (hs : Sels L Lc F) (hc : Tri P g vs w Lc Q) : Calls P g vs w fun e w2 => ∃ LQ, Q e LQ ∧ St w0 S0 (LQ ++ F) w2 := by
  obtain ⟨S1, h1, h2, h3⟩ := H.split hs
  exact (hc S1 h1 h2).mono fun e w2 ⟨LQ, hq, hst⟩ => ⟨LQ, hq, h3 LQ w2 hst⟩
theorem WO.scall (d : Nat) {g : FuncId} {args : Array Operand} {ts : Array TypeId} {vs : Array Value} {Q : Ending → List Asn → Prop} (ho : ops[i]? = some o) (hk : okOp n ops τ o d true = true) (he : ∀ args w, (callFunc g args).run P w = .ok (.enter g args) w)
    (H : St w0 S0 L w) (hs : Sels L Lc F) (hc : Tri P g vs w Lc Q)
    (hop : o.op = .call { callee := .value (.func g), args := args, argTypes := ts }) (hvs : (args.toList.map (ev τ)).toArray = vs)
    (h : ∀ e LQ w2, Q e LQ → St w0 S0 (LQ ++ F) w2 → ∃ v, e = .returned v ∧ WO P f n R ops k rest (upd τ d v) w2) : WO P f n R ops k (i :: rest) τ w :=
  WO.c d ho hk (Calls.use H hs hc) (r_call hop rfl hvs he) (fun e w2 ⟨LQ, h1, h2⟩ => h e LQ w2 h1 h2)
end
end Go.Proofs.Ytojpimpfpjhflaa.Fw
namespace Go.Proofs.Ytojpimpfpjhflaa.Fw
open Go Go.RowKit Go.Proofs.YtojpimpfpjhflaaW.PrintWords
set_option linter.unusedVariables false
set_option linter.unusedSimpArgs false

/-- A kind that is owned: a value's cells, and the blocks of its own. -/
structure Ow {α : Type} (d : Kd α) where
  own : World → Fp → α → List Value → Prop
  stab : ∀ {w w' : World} {S : Fp} {x : α} {vs : List Value}, own w S x vs → (∀ k, S k → w'.heap[k]? = w.heap[k]?) → own w' S x vs
  mono : ∀ {w : World} {S S' : Fp} {x : α} {vs : List Value}, own w S x vs → (∀ k, S k → S' k) → own w S' x vs
  toM : ∀ {w : World} {S : Fp} {x : α} {vs : List Value} {base : Nat}, own w S x vs → (∀ k, S k → base ≤ k) → d.M w base S x vs
section
variable {α : Type} {d : Kd α} {o : Ow d} {w w' : World} {S S' : Fp} {x : α} {vs : List Value}
theorem Ow.toK (o : Ow d) (h : o.own w S x vs) : d.K w x vs := d.K_of_M (o.toM h (fun _ _ => Nat.zero_le _))
theorem Ow.len (o : Ow d) (h : o.own w S x vs) : vs.length = d.sz := d.K_len (o.toK h)
theorem Ow.one (o : Ow d) (h : o.own w S x vs) : ∀ u ∈ vs, u.oneCell' = true := d.K_one (o.toK h)
/-- Nothing of it lies elsewhere: reading it is having it. -/
def Flat (o : Ow d) : Prop := ∀ {w : World} {x : α} {vs : List Value}, d.K w x vs → o.own w Em x vs
def bigs (o : Ow d) (w : World) : Fp → List α → List (List Value) → Prop
  | _, [], [] => True
  | S, x :: xs, vs :: vss => ∃ S1 S2 : Fp, o.own w S1 x vs ∧ bigs o w S2 xs vss ∧ (∀ k, S1 k → S2 k → False) ∧ (∀ k, S1 k → S k) ∧ (∀ k, S2 k → S k)
  | _, _, _ => False
/-- All but the i-th. -/
def bigsH (o : Ow d) (w : World) : Fp → Nat → List α → List (List Value) → Prop
  | S, 0, x :: xs, vs :: vss => vs.length = d.sz ∧ bigs o w S xs vss
  | S, i + 1, x :: xs, vs :: vss => ∃ S1 S2 : Fp, o.own w S1 x vs ∧ bigsH o w S2 i xs vss ∧ (∀ k, S1 k → S2 k → False) ∧ (∀ k, S1 k → S k) ∧ (∀ k, S2 k → S k)
  | _, _, _, _ => False
theorem bigs_stab : ∀ {xs : List α} {vss : List (List Value)} {S : Fp}, bigs o w S xs vss → (∀ k, S k → w'.heap[k]? = w.heap[k]?) → bigs o w' S xs vss
  | [], [], _, _, _ => trivial
  | x :: xs, vs :: vss, S, ⟨S1, S2, h1, h2, h3, h4, h5⟩, h => ⟨S1, S2, o.stab h1 fun k hk => h k (h4 k hk), bigs_stab h2 fun k hk => h k (h5 k hk), h3, h4, h5⟩
theorem bigs_mono : ∀ {xs : List α} {vss : List (List Value)} {S S' : Fp}, bigs o w S xs vss → (∀ k, S k → S' k) → bigs o w S' xs vss
  | [], [], _, _, _, _ => trivial
  | x :: xs, vs :: vss, S, S', ⟨S1, S2, h1, h2, h3, h4, h5⟩, h => ⟨S1, S2, h1, h2, h3, fun k hk => h k (h4 k hk), fun k hk => h k (h5 k hk)⟩
theorem bigsH_stab : ∀ {i : Nat} {xs : List α} {vss : List (List Value)} {S : Fp}, bigsH o w S i xs vss → (∀ k, S k → w'.heap[k]? = w.heap[k]?) → bigsH o w' S i xs vss
  | 0, x :: xs, vs :: vss, _, ⟨h1, h2⟩, h => ⟨h1, bigs_stab h2 h⟩
  | i + 1, x :: xs, vs :: vss, S, ⟨S1, S2, h1, h2, h3, h4, h5⟩, h => ⟨S1, S2, o.stab h1 fun k hk => h k (h4 k hk), bigsH_stab h2 fun k hk => h k (h5 k hk), h3, h4, h5⟩
theorem bigsH_mono : ∀ {i : Nat} {xs : List α} {vss : List (List Value)} {S S' : Fp}, bigsH o w S i xs vss → (∀ k, S k → S' k) → bigsH o w S' i xs vss
  | 0, x :: xs, vs :: vss, _, _, ⟨h1, h2⟩, h => ⟨h1, bigs_mono h2 h⟩
  | i + 1, x :: xs, vs :: vss, S, S', ⟨S1, S2, h1, h2, h3, h4, h5⟩, h => ⟨S1, S2, h1, h2, h3, fun k hk => h k (h4 k hk), fun k hk => h k (h5 k hk)⟩
theorem bigs_len : ∀ {xs : List α} {vss : List (List Value)} {S : Fp}, bigs o w S xs vss → vss.length = xs.length ∧ ∀ vs ∈ vss, vs.length = d.sz
  | [], [], _, _ => ⟨rfl, fun _ h => absurd h List.not_mem_nil⟩
  | x :: xs, vs :: vss, S, ⟨S1, S2, h1, h2, h3, h4, h5⟩ => by
    obtain ⟨e1, e2⟩ := bigs_len h2
    exact ⟨by simp [e1], fun u hu => (List.mem_cons.1 hu).elim (fun e => by rw [e]; exact o.len h1) (e2 u)⟩
theorem bigsH_len : ∀ {i : Nat} {xs : List α} {vss : List (List Value)} {S : Fp}, bigsH o w S i xs vss → vss.length = xs.length ∧ ∀ vs ∈ vss, vs.length = d.sz
  | 0, x :: xs, vs :: vss, S, ⟨h1, h2⟩ => by
    obtain ⟨e1, e2⟩ := bigs_len h2
    exact ⟨by simp [e1], fun u hu => (List.mem_cons.1 hu).elim (fun e => by rw [e]; exact h1) (e2 u)⟩
  | i + 1, x :: xs, vs :: vss, S, ⟨S1, S2, h1, h2, h3, h4, h5⟩ => by
    obtain ⟨e1, e2⟩ := bigsH_len h2
    exact ⟨by simp [e1], fun u hu => (List.mem_cons.1 hu).elim (fun e => by rw [e]; exact o.len h1) (e2 u)⟩
theorem bigs_app : ∀ {xs ys : List α} {vss uss : List (List Value)} {S1 S2 S : Fp}, bigs o w S1 xs vss → bigs o w S2 ys uss → (∀ k, S1 k → S2 k → False) → (∀ k, S1 k → S k) → (∀ k, S2 k → S k) → bigs o w S (xs ++ ys) (vss ++ uss)
  | [], ys, [], uss, S1, S2, S, _, h2, _, _, h5 => bigs_mono h2 h5
  | x :: xs, ys, vs :: vss, uss, S1, S2, S, ⟨T1, T2, g1, g2, g3, g4, g5⟩, h2, h3, h4, h5 =>
    ⟨T1, fun k => T2 k ∨ S2 k, g1, bigs_app g2 h2 (fun k a b => h3 k (g5 k a) b) (fun k a => .inl a) (fun k a => .inr a), fun k a b => b.elim (g3 k a) (h3 k (g4 k a)), fun k a => h4 k (g4 k a), fun k a => a.elim (fun a => h4 k (g5 k a)) (h5 k)⟩
theorem bigs_flat (hf : Flat o) : ∀ {xs : List α} {vss : List (List Value)} {S : Fp}, vss.length = xs.length → (∀ (j : Nat) (x : α) (vs : List Value), xs[j]? = some x → vss[j]? = some vs → d.K w x vs) → bigs o w S xs vss
  | [], [], _, _, _ => trivial
  | x :: xs, vs :: vss, S, h, hk => ⟨Em, S, hf (hk 0 x vs rfl rfl), bigs_flat hf (by simpa using h) (fun j y us hy hu => hk (j + 1) y us hy hu), fun _ h => h.elim, fun _ h => h.elim, fun _ h => h⟩
theorem bigs_at : ∀ {xs : List α} {vss : List (List Value)} {S : Fp} {j : Nat} {vs : List Value} {x : α}, bigs o w S xs vss → xs[j]? = some x → vss[j]? = some vs → ∃ S1 : Fp, o.own w S1 x vs ∧ ∀ k, S1 k → S k
  | x :: xs, vs :: vss, S, 0, us, y, ⟨S1, S2, h1, h2, h3, h4, h5⟩, hx, hu => by
    simp at hx hu
    subst hx hu
    exact ⟨S1, h1, h4⟩
  | x :: xs, vs :: vss, S, j + 1, us, y, ⟨S1, S2, h1, h2, h3, h4, h5⟩, hx, hu => by
    obtain ⟨T, g1, g2⟩ := bigs_at h2 (by simpa using hx) (by simpa using hu)
    exact ⟨T, g1, fun k hk => h5 k (g2 k hk)⟩
theorem bigs_take : ∀ {xs : List α} {vss : List (List Value)} {S : Fp} {i : Nat} {x : α}, bigs o w S xs vss → xs[i]? = some x →
    ∃ (vs : List Value) (S1 S2 : Fp), vss[i]? = some vs ∧ o.own w S1 x vs ∧ bigsH o w S2 i xs vss ∧ (∀ k, S1 k → S2 k → False) ∧ (∀ k, S1 k → S k) ∧ (∀ k, S2 k → S k)
  | x :: xs, vs :: vss, S, 0, y, ⟨S1, S2, h1, h2, h3, h4, h5⟩, hx => by
    simp at hx
    subst hx
    exact ⟨vs, S1, S2, rfl, h1, ⟨o.len h1, h2⟩, h3, h4, h5⟩
  | x :: xs, vs :: vss, S, i + 1, y, ⟨S1, S2, h1, h2, h3, h4, h5⟩, hx => by
    obtain ⟨us, T1, T2, g0, g1, g2, g3, g4, g5⟩ := bigs_take (i := i) h2 (by simpa using hx)
    exact ⟨us, T1, fun k => S1 k ∨ T2 k, by simpa using g0, g1, ⟨S1, T2, h1, g2, fun k a b => h3 k a (g5 k b), fun k a => .inl a, fun k a => .inr a⟩, fun k a b => b.elim (fun b => h3 k b (g4 k a)) (g3 k a), fun k a => h5 k (g4 k a), fun k a => a.elim (h4 k) (fun a => h5 k (g5 k a))⟩
theorem bigs_back : ∀ {xs : List α} {vss : List (List Value)} {S1 S2 S : Fp} {i : Nat} {x : α} {vs : List Value}, bigsH o w S2 i xs vss → o.own w S1 x vs → (∀ k, S1 k → S2 k → False) → (∀ k, S1 k → S k) → (∀ k, S2 k → S k) → bigs o w S (xs.set i x) (vss.set i vs)
  | y :: xs, us :: vss, S1, S2, S, 0, x, vs, ⟨_, h2⟩, h1, h3, h4, h5 => ⟨S1, S2, h1, h2, h3, h4, h5⟩
  | y :: xs, us :: vss, S1, S2, S, i + 1, x, vs, ⟨T1, T2, g1, g2, g3, g4, g5⟩, h1, h3, h4, h5 =>
    ⟨T1, fun k => S1 k ∨ T2 k, g1, bigs_back g2 h1 (fun k a b => h3 k a (g5 k b)) (fun k a => .inl a) (fun k a => .inr a), fun k a b => b.elim (fun b => h3 k b (g4 k a)) (g3 k a), fun k a => h5 k (g4 k a), fun k a => a.elim (h4 k) (fun a => h5 k (g5 k a))⟩
  | [], vss, S1, S2, S, i, x, vs, h, _, _, _, _ => by cases i <;> cases vss <;> exact h.elim
  | y :: xs, [], S1, S2, S, i, x, vs, h, _, _, _, _ => by cases i <;> exact h.elim
/-- The i-th element's cells among all. -/
theorem flat_at : ∀ {vss : List (List Value)} {s : Nat}, (∀ vs ∈ vss, vs.length = s) → ∀ {i : Nat} {vs : List Value}, vss[i]? = some vs → ∀ j, j < s → vss.flatten[i * s + j]? = vs[j]?
  | us :: vss, s, h, 0, vs, hi, j, hj => by
    simp at hi
    subst hi
    rw [List.flatten_cons, List.getElem?_append_left (by rw [h _ List.mem_cons_self]; omega)]
    simp
  | us :: vss, s, h, i + 1, vs, hi, j, hj => by
    have e := h _ (List.mem_cons_self (a := us) (l := vss))
    rw [List.flatten_cons, List.getElem?_append_right (by rw [e, Nat.add_mul]; omega), e, show (i + 1) * s + j - s = i * s + j by rw [Nat.add_mul]; omega]
    exact flat_at (fun v hv => h v (List.mem_cons_of_mem _ hv)) (by simpa using hi) j hj
theorem flat_set : ∀ {vss : List (List Value)} {s : Nat}, (∀ vs ∈ vss, vs.length = s) → ∀ {i : Nat} {vs : List Value}, vss[i]? = some vs → ∀ j u, j < s → vss.flatten.set (i * s + j) u = (vss.set i (vs.set j u)).flatten
  | us :: vss, s, h, 0, vs, hi, j, u, hj => by
    simp at hi
    subst hi
    have e := h _ (List.mem_cons_self (a := us) (l := vss))
    simp only [List.flatten_cons, List.set_cons_zero, Nat.zero_mul, Nat.zero_add]
    rw [List.set_append_left _ _ (by omega)]
  | us :: vss, s, h, i + 1, vs, hi, j, u, hj => by
    have e := h _ (List.mem_cons_self (a := us) (l := vss))
    simp only [List.flatten_cons, List.set_cons_succ]
    rw [List.set_append_right _ _ (by rw [e, Nat.add_mul]; omega), e, show (i + 1) * s + j - s = i * s + j by rw [Nat.add_mul]; omega]
    rw [flat_set (fun v hv => h v (List.mem_cons_of_mem _ hv)) (by simpa using hi) j u hj]
theorem flat_len : ∀ {vss : List (List Value)} {s : Nat}, (∀ vs ∈ vss, vs.length = s) → vss.flatten.length = vss.length * s
  | [], s, _ => by simp
  | us :: vss, s, h => by
    have e := h _ (List.mem_cons_self (a := us) (l := vss))
    rw [List.flatten_cons, List.length_append, flat_len (fun v hv => h v (List.mem_cons_of_mem _ hv)), e, List.length_cons, Nat.add_mul]
    omega
end

/-! ### rows -/
section
variable {α : Type} {d : Kd α} {o : Ow d} {w w' : World} {S S' : Fp} {e : Nat} {v : Value} {xs : List α}
def rowP (o : Ow d) (e : Nat) (w : World) (S : Fp) (v : Value) (xs : List α) : Prop :=
  ∃ vss : List (List Value), (∀ k, v.ownBlock = some k → S k) ∧ w.ownsRow 0 e d.sz v xs.length vss.flatten ∧ bigs o w (fun k => S k ∧ some k ≠ v.ownBlock) xs vss
theorem rowP_stab (h : rowP o e w S v xs) (hk : ∀ k, S k → w'.heap[k]? = w.heap[k]?) : rowP o e w' S v xs := by
  obtain ⟨vss, h1, h2, h3⟩ := h
  exact ⟨vss, h1, own_move h2 (fun k hk' => hk k (h1 k hk')), bigs_stab h3 fun k hk' => hk k hk'.1⟩
theorem rowP_mono (h : rowP o e w S v xs) (hk : ∀ k, S k → S' k) : rowP o e w S' v xs := by
  obtain ⟨vss, h1, h2, h3⟩ := h
  exact ⟨vss, fun k hk' => hk k (h1 k hk'), h2, bigs_mono h3 fun k hk' => ⟨hk k hk'.1, hk'.2⟩⟩
theorem rowP_R (h : rowP o e w S v xs) {base : Nat} (hb : ∀ k, S k → base ≤ k) : d.R e w base S v xs := by
  obtain ⟨vss, h1, h2, h3⟩ := h
  obtain ⟨hl, hs⟩ := bigs_len h3
  refine ⟨h1, vss.flatten, ?_, h2.1, fun j p hj => ?_⟩
  · obtain ⟨a, b⟩ := h2
    refine ⟨a, b.imp (fun h => h) ?_⟩
    rintro ⟨g, cap, cur, rfl, hg, r⟩
    exact ⟨g, cap, cur, rfl, hb g (h1 g rfl), r⟩
  · have hjl : j < xs.length := (List.getElem?_eq_some_iff.1 hj).1
    obtain ⟨vs, hv⟩ : ∃ vs, vss[j]? = some vs := ⟨_, List.getElem?_eq_getElem (by omega)⟩
    obtain ⟨T, g1, g2⟩ := bigs_at h3 hj hv
    have : (vss.flatten.drop (j * d.sz)).take d.sz = vs := by
      refine List.ext_getElem? fun m => ?_
      have hvl := hs vs (List.mem_of_getElem? hv)
      by_cases hm : m < d.sz
      · rw [List.getElem?_take_of_lt hm, List.getElem?_drop]
        exact flat_at hs hv m hm
      · rw [List.getElem?_eq_none (by rw [List.length_take]; omega), List.getElem?_eq_none (by omega)]
    rw [this]
    exact d.M_mono g2 (o.toM g1 fun k hk => hb k (g2 k hk).1)
def Ow.slice (e : Nat) (o : Ow d) : Ow (Kd.slice e d) where
  own := fun w S xs vs => ∃ v, vs = [v] ∧ rowP o e w S v xs
  stab := by
    rintro w w' S x vs ⟨v, rfl, h⟩ hk
    exact ⟨v, rfl, rowP_stab h hk⟩
  mono := by
    rintro w S S' x vs ⟨v, rfl, h⟩ hk
    exact ⟨v, rfl, rowP_mono h hk⟩
  toM := by
    rintro w S x vs base ⟨v, rfl, h⟩ hb
    exact ⟨v, rfl, rowP_R h hb⟩
end
def Ow.scalar {α : Type} (enc : α → Value) (h1 : ∀ x, (enc x).oneCell' = true) : Ow (Kd.scalar enc h1) where
  own := fun _ _ x vs => vs = [enc x]
  stab := fun h _ => h
  mono := fun h _ => h
  toM := fun h _ => h
def Ow.int (k : IntKind) : Ow (Kd.int k) := Ow.scalar _ _
def Ow.bool : Ow Kd.bool := Ow.scalar _ _
def Ow.string : Ow Kd.string := Ow.scalar _ _
def Ow.pair {α β : Type} {a : Kd α} {b : Kd β} (p : Ow a) (q : Ow b) : Ow (Kd.pair a b) where
  own := fun w S x vs => ∃ (c0 c1 : List Value) (S1 S2 : Fp), vs = c0 ++ c1 ∧ p.own w S1 x.1 c0 ∧ q.own w S2 x.2 c1 ∧ (∀ k, S1 k → S2 k → False) ∧ (∀ k, S1 k → S k) ∧ (∀ k, S2 k → S k)
  stab := by
    rintro w w' S x vs ⟨c0, c1, S1, S2, rfl, h1, h2, h3, h4, h5⟩ hk
    exact ⟨c0, c1, S1, S2, rfl, p.stab h1 fun k a => hk k (h4 k a), q.stab h2 fun k a => hk k (h5 k a), h3, h4, h5⟩
  mono := by
    rintro w S S' x vs ⟨c0, c1, S1, S2, rfl, h1, h2, h3, h4, h5⟩ hk
    exact ⟨c0, c1, S1, S2, rfl, h1, h2, h3, fun k a => hk k (h4 k a), fun k a => hk k (h5 k a)⟩
  toM := by
    rintro w S x vs base ⟨c0, c1, S1, S2, rfl, h1, h2, h3, h4, h5⟩ hb
    exact ⟨c0, c1, rfl, a.M_mono h4 (p.toM h1 fun k a => hb k (h4 k a)), b.M_mono h5 (q.toM h2 fun k a => hb k (h5 k a))⟩
def Ow.iso {α β : Type} {d : Kd α} (o : Ow d) (f : β → α) : Ow (Kd.iso d f) where
  own := fun w S x vs => o.own w S (f x) vs
  stab := o.stab
  mono := o.mono
  toM := o.toM
theorem flat_scalar {α : Type} {enc : α → Value} {h1 : ∀ x, (enc x).oneCell' = true} : Flat (Ow.scalar enc h1) := fun h => h
theorem flat_int (k : IntKind) : Flat (Ow.int k) := fun h => h
theorem flat_bool : Flat Ow.bool := fun h => h
theorem flat_string : Flat Ow.string := fun h => h
theorem flat_pair {α β : Type} {a : Kd α} {b : Kd β} {p : Ow a} {q : Ow b} (hp : Flat p) (hq : Flat q) : Flat (Ow.pair p q) := by
  rintro w x vs ⟨c0, c1, rfl, h0, h1⟩
  exact ⟨c0, c1, Em, Em, rfl, hp h0, hq h1, fun _ h => h.elim, fun _ h => h, fun _ h => h⟩
theorem flat_iso {α β : Type} {d : Kd α} {o : Ow d} (f : β → α) (h : Flat o) : Flat (Ow.iso o f) := fun hk => h hk

/-! ### the resources -/
section
variable {α : Type} {d : Kd α}
/-- A value's cells, and what lies behind them. -/
def El (o : Ow d) (x : α) (vs : List Value) : Asn where
  P := fun w S => o.own w S x vs
  stab := o.stab
  mono := o.mono
/-- A row. -/
def Rw (o : Ow d) (e : Nat) (v : Value) (xs : List α) : Asn where
  P := fun w S => rowP o e w S v xs
  stab := rowP_stab
  mono := rowP_mono
/-- A row whose i-th element (its cells: vs) is taken out. -/
def RwH (o : Ow d) (e : Nat) (v : Value) (xs : List α) (i : Nat) (vs : List Value) : Asn where
  P := fun w S => ∃ vss : List (List Value), vss[i]? = some vs ∧ (∀ k, v.ownBlock = some k → S k) ∧ w.ownsRow 0 e d.sz v xs.length vss.flatten ∧ bigsH o w (fun k => S k ∧ some k ≠ v.ownBlock) i xs vss
  stab := by
    rintro w w' S ⟨vss, h0, h1, h2, h3⟩ hk
    exact ⟨vss, h0, h1, own_move h2 (fun k hk' => hk k (h1 k hk')), bigsH_stab h3 fun k hk' => hk k hk'.1⟩
  mono := by
    rintro w S S' ⟨vss, h0, h1, h2, h3⟩ hk
    exact ⟨vss, h0, fun k hk' => hk k (h1 k hk'), h2, bigsH_mono h3 fun k hk' => ⟨hk k hk'.1, hk'.2⟩⟩
end
section
variable {α β : Type} {d : Kd α} {o : Ow d} {w0 w w' : World} {S0 : Fp} {L F : List Asn} {K : Asn → List Asn} {e n c : Nat} {v : Value} {A : Option Addr} {xs : List α}
theorem St.rd (H : St w0 S0 L w) (hu : U L (Rw o e (.slice A n c) xs) K) : n = xs.length ∧ xs.length ≤ c ∧ d.C w A xs.length xs := by
  obtain ⟨S, h, _⟩ := H.get hu
  obtain ⟨A', c', e', hl, hr⟩ := Kd.R_reads (rowP_R h (base := 0) fun _ _ => Nat.zero_le _)
  cases e'
  exact ⟨rfl, hl, hr⟩
theorem St.rdC (H : St w0 S0 L w) (hu : U L (Rw o e (.slice A xs.length c) xs) K) : d.C w A xs.length xs := (H.rd hu).2.2
theorem St.front {B : Asn} (H : St w0 S0 L w) (hs : Sel L B F) : St w0 S0 (B :: F) w := by
  obtain ⟨hm, S, h, hl⟩ := H
  exact ⟨hm, S, sl_sel hs h, hl⟩
/-- Two of its own are turned into one. -/
theorem St.upd2 {A1 B1 C1 : Asn} (H : St w0 S0 (A1 :: F) w) (hu : U F B1 K)
    (h : ∀ S1 S2 : Fp, A1.P w S1 → B1.P w S2 → (∀ k, S1 k → S2 k → False) → (∀ k, S1 k ∨ S2 k → k < w.heap.size) → Mut (fun k => S1 k ∨ S2 k) w w' ∧ ∃ S' : Fp, C1.P w' S' ∧ ∀ k, S' k → k < w'.heap.size ∧ ((S1 k ∨ S2 k) ∨ w.heap.size ≤ k)) : St w0 S0 (K C1) w' := by
  obtain ⟨hm, S, ⟨T1, T2, t1, t2, t3, t4, t5⟩, hl⟩ := H
  obtain ⟨S1, S2, g1, g3, g4, g5, g6⟩ := sl_u hu t2
  have hlt : ∀ k, T1 k ∨ S1 k → S k := fun k hk => hk.elim (t4 k) (fun hk => t5 k (g4 k hk))
  obtain ⟨hm', S', hB, hl'⟩ := h T1 S1 t1 g1 (fun k a b => t3 k a (g4 k b)) (fun k hk => (hl k (hlt k hk)).1)
  have hd2 : ∀ k, (T1 k ∨ S1 k) → S2 k → False := fun k a b => a.elim (fun a => t3 k a (g5 k b)) (fun a => g3 k a b)
  have hd : ∀ k, S' k → S2 k → False := fun k a b => by
    rcases (hl' k a).2 with h1 | h1
    · exact hd2 k h1 b
    · have := (hl k (t5 k (g5 k b))).1
      omega
  refine ⟨?_, fun k => S' k ∨ S2 k, g6 C1 w' S' _ hB (fun k hk => hm'.block k (hl k (t5 k (g5 k hk))).1 fun h1 => hd2 k h1 hk) hd (fun k a => .inl a) (fun k a => .inr a), ?_⟩
  · refine ⟨hm'.os.trans hm.os, hm'.tape.trans hm.tape, hm'.output.trans hm.output, Nat.le_trans hm.size hm'.size, fun k hk hn => (hm'.block k (Nat.lt_of_lt_of_le hk hm.size) fun h1 => ?_).trans (hm.block k hk hn)⟩
    rcases (hl k (hlt k h1)).2 with h2 | h2
    · exact hn h2
    · omega
  · rintro k (hk | hk)
    · refine ⟨(hl' k hk).1, ?_⟩
      rcases (hl' k hk).2 with h1 | h1
      · exact (hl k (hlt k h1)).2
      · exact .inr (Nat.le_trans hm.size h1)
    · exact ⟨Nat.lt_of_lt_of_le (hl k (t5 k (g5 k hk))).1 hm'.size, (hl k (t5 k (g5 k hk))).2⟩
/-- Where a row that is not empty lies. -/
theorem St.lies (H : St w0 S0 L w) (hu : U L (Rw o e (.slice A xs.length c) xs) K) (hn : 0 < xs.length) : ∃ g, A = some ⟨g, 0, none⟩ ∧ g < w.heap.size := by
  obtain ⟨S, ⟨vss, h1, h2, h3⟩, _⟩ := H.get hu
  obtain ⟨g, c', e', _, _, hl, _⟩ := own_at h2 hn
  cases e'
  exact ⟨g, rfl, hl⟩
/-- The empty row. -/
theorem St.row_nil (o : Ow d) (e : Nat) (H : St w0 S0 L w) : St w0 S0 (Rw o e (.slice none 0 0) ([] : List α) :: L) w :=
  H.emp (B := Rw o e (.slice none 0 0) []) ⟨[], fun k hk => by simp [Value.ownBlock] at hk, World.ownsRow_nil _ _ _ _, trivial⟩
/-- An element is taken out. -/
theorem St.take (H : St w0 S0 L w) (hu : U L (Rw o e (.slice A xs.length c) xs) K) (i : Nat) {x : α} (hi : xs[i]? = some x) :
    ∃ vs, St w0 S0 (El o x vs :: K (RwH o e (.slice A xs.length c) xs i vs)) w := by
  obtain ⟨hm, S, h, hl⟩ := H
  obtain ⟨S1, S2, ⟨vss, h1, h2, h3⟩, g3, g4, g5, g6⟩ := sl_u hu h
  obtain ⟨vs, T1, T2, e1, e2, e3, e4, e5, e6⟩ := bigs_take h3 hi
  refine ⟨vs, hm, S, ⟨T1, fun k => (S1 k ∧ ¬ T1 k) ∨ S2 k, e2, g6 (RwH o e (.slice A xs.length c) xs i vs) w (fun k => S1 k ∧ ¬ T1 k) _ ⟨vss, e1, fun k hk => ⟨h1 k hk, fun ht => (e5 k ht).2 hk.symm⟩, h2, bigsH_mono e3 fun k hk => ⟨⟨(e6 k hk).1, fun ht => e4 k ht hk⟩, (e6 k hk).2⟩⟩ (fun _ _ => rfl) (fun k a b => g3 k a.1 b) (fun k a => .inl a) (fun k a => .inr a), fun k a b => b.elim (fun b => b.2 a) (fun b => g3 k (e5 k a).1 b), fun k a => g4 k (e5 k a).1, fun k a => a.elim (fun a => g4 k a.1) (g5 k)⟩, hl⟩
/-- An element that is a row. -/
theorem St.takeR {d1 : Kd β} {o1 : Ow d1} {e1 : Nat} {xss : List (List β)} (H : St w0 S0 L w) (hu : U L (Rw (Ow.slice e1 o1) e (.slice A xss.length c) xss) K) (i : Nat) {x : List β} (hi : xss[i]? = some x) :
    ∃ A1 c1, St w0 S0 (Rw o1 e1 (.slice A1 x.length c1) x :: K (RwH (Ow.slice e1 o1) e (.slice A xss.length c) xss i [.slice A1 x.length c1])) w := by
  obtain ⟨vs, H'⟩ := H.take hu i hi
  obtain ⟨S, ⟨v, rfl, h⟩, _⟩ := H'.get p0
  obtain ⟨A1, c1, rfl, _⟩ := Kd.R_reads (rowP_R h (base := 0) fun _ _ => Nat.zero_le _)
  refine ⟨A1, c1, H'.imp p0 fun S hS _ => ?_⟩
  obtain ⟨v', e', h'⟩ := hS
  cases e'
  exact h'
/-- The cells of the element that is out. -/
theorem St.hole {i : Nat} {vs : List Value} (H : St w0 S0 L w) (hu : U L (RwH o e (.slice A n c) xs i vs) K) : n = xs.length ∧ i < xs.length ∧ ∃ g, A = some ⟨g, 0, none⟩ ∧ ∀ j u, vs[j]? = some u → w.cell? ⟨g, i * d.sz + j, none⟩ = some u := by
  obtain ⟨S, ⟨vss, h0, h1, h2, h3⟩, _⟩ := H.get hu
  obtain ⟨hl, hs⟩ := bigsH_len h3
  have hi : i < xs.length := by rw [← hl]; exact (List.getElem?_eq_some_iff.1 h0).1
  obtain ⟨g, c', e', _, _, _, hc⟩ := own_at h2 (by omega)
  cases e'
  refine ⟨rfl, hi, g, rfl, fun j u hj => hc _ _ ?_⟩
  have hvl := hs vs (List.mem_of_getElem? h0)
  rw [flat_at hs h0 j (by rw [← hvl]; exact (List.getElem?_eq_some_iff.1 hj).1)]
  exact hj
/-- It is put back, as it lies there. -/
theorem St.back {i : Nat} {vs : List Value} {x : α} (H : St w0 S0 (El o x vs :: F) w) (hu : U F (RwH o e v xs i vs) K) : St w0 S0 (K (Rw o e v (xs.set i x))) w := by
  refine H.upd2 (C1 := Rw o e v (xs.set i x)) hu fun S1 S2 hA hB hd hl => ⟨Mut.refl w |>.mono fun _ _ h => h, fun k => S1 k ∨ S2 k, ?_, fun k hk => ⟨hl k hk, .inl hk⟩⟩
  obtain ⟨vss, h0, h1, h2, h3⟩ := hB
  refine ⟨vss.set i vs, fun k hk => .inr (h1 k hk), ?_, ?_⟩
  · rw [show vss.set i vs = vss by
      refine List.ext_getElem? fun m => ?_
      rw [List.getElem?_set]
      split
      · subst_vars
        rw [h0]
        simp [(List.getElem?_eq_some_iff.1 h0).1]
      · rfl, List.length_set]
    exact h2
  · exact bigs_back h3 hA (fun k a b => hd k a b.1) (fun k a => ⟨.inl a, fun hk => hd k a (h1 k hk.symm)⟩) (fun k a => ⟨.inr a.1, a.2⟩)
theorem St.backR {d1 : Kd β} {o1 : Ow d1} {e1 : Nat} {xss : List (List β)} {i : Nat} {v1 : Value} {x : List β} (H : St w0 S0 (Rw o1 e1 v1 x :: F) w) (hu : U F (RwH (Ow.slice e1 o1) e v xss i [v1]) K) : St w0 S0 (K (Rw (Ow.slice e1 o1) e v (xss.set i x))) w :=
  (H.imp (B := El (Ow.slice e1 o1) x [v1]) p0 fun S hS _ => ⟨v1, rfl, hS⟩).back hu
/-- A cell of a row's block is written. -/
theorem own_set {base e' s m c' g j : Nat} {cells : List Value} {u : Value} (h : w.ownsRow base e' s (.slice (some ⟨g, 0, none⟩) m c') m cells) (hj : j < cells.length) : (w.setCell ⟨g, j, none⟩ u).ownsRow base e' s (.slice (some ⟨g, 0, none⟩) m c') m (cells.set j u) := by
  obtain ⟨h1, h2⟩ := h
  refine ⟨by simpa using h1, .inr ?_⟩
  rcases h2 with ⟨h2, _⟩ | ⟨g', cap, cur, he, hb, hh, h3, h4, h5, h6⟩
  · cases h2
  · cases he
    refine ⟨g, c', cur.setIfInBounds j u, rfl, hb, ?_, h3, h4, by simpa using h5, ?_⟩
    · simp [World.setCell, Array.getElem?_modify, hh]
    · rw [Array.toList_setIfInBounds, List.take_set, h6]
end
end Go.Proofs.Ytojpimpfpjhflaa.Fw
namespace Go.Proofs.Ytojpimpfpjhflaa.Fw
open Go Go.RowKit Go.Proofs.YtojpimpfpjhflaaW.PrintWords
set_option linter.unusedVariables false
set_option linter.unusedSimpArgs false

section
variable {w0 w w' : World} {S0 : Fp} {L F : List Asn} {K : Asn → List Asn} {A B : Asn}
theorem St.opn (H : St w0 S0 L w) (hu : U L A K) : ∃ S : Fp, A.P w S ∧ (∀ k, S k → k < w.heap.size) ∧
    ∀ (B : Asn) (w' : World) (S' : Fp), Mut S w w' → B.P w' S' → (∀ k, S' k → k < w'.heap.size ∧ (S k ∨ w.heap.size ≤ k)) → St w0 S0 (K B) w' := by
  obtain ⟨hm, S, hS, hl⟩ := H
  obtain ⟨S1, S2, g1, g3, g4, g5, g6⟩ := sl_u hu hS
  refine ⟨S1, g1, fun k hk => (hl k (g4 k hk)).1, fun B w' S' hm' hB hl' => ?_⟩
  have hd : ∀ k, S' k → S2 k → False := fun k a b => by
    rcases (hl' k a).2 with h1 | h1
    · exact g3 k h1 b
    · have := (hl k (g5 k b)).1
      omega
  refine ⟨?_, fun k => S' k ∨ S2 k, g6 B w' S' _ hB (fun k hk => hm'.block k (hl k (g5 k hk)).1 fun h1 => g3 k h1 hk) hd (fun k a => .inl a) (fun k a => .inr a), ?_⟩
  · refine ⟨hm'.os.trans hm.os, hm'.tape.trans hm.tape, hm'.output.trans hm.output, Nat.le_trans hm.size hm'.size, fun k hk hn => (hm'.block k (Nat.lt_of_lt_of_le hk hm.size) fun h1 => ?_).trans (hm.block k hk hn)⟩
    rcases (hl k (g4 k h1)).2 with h2 | h2
    · exact hn h2
    · omega
  · rintro k (hk | hk)
    · refine ⟨(hl' k hk).1, ?_⟩
      rcases (hl' k hk).2 with h1 | h1
      · exact (hl k (g4 k h1)).2
      · exact .inr (Nat.le_trans hm.size h1)
    · exact ⟨Nat.lt_of_lt_of_le (hl k (g5 k hk)).1 hm'.size, (hl k (g5 k hk)).2⟩
theorem St.opn2 (H : St w0 S0 (A :: F) w) (hu : U F B K) : ∃ S1 S2 : Fp, A.P w S1 ∧ B.P w S2 ∧ (∀ k, S1 k → S2 k → False) ∧ (∀ k, S1 k ∨ S2 k → k < w.heap.size) ∧
    ∀ (C : Asn) (w' : World) (S' : Fp), Mut (fun k => S1 k ∨ S2 k) w w' → C.P w' S' → (∀ k, S' k → k < w'.heap.size ∧ ((S1 k ∨ S2 k) ∨ w.heap.size ≤ k)) → St w0 S0 (K C) w' := by
  obtain ⟨hm, S, ⟨T1, T2, t1, t2, t3, t4, t5⟩, hl⟩ := H
  obtain ⟨S1, S2, g1, g3, g4, g5, g6⟩ := sl_u hu t2
  have hlt : ∀ k, T1 k ∨ S1 k → S k := fun k hk => hk.elim (t4 k) (fun hk => t5 k (g4 k hk))
  refine ⟨T1, S1, t1, g1, fun k a b => t3 k a (g4 k b), fun k hk => (hl k (hlt k hk)).1, fun C w' S' hm' hB hl' => ?_⟩
  have hd2 : ∀ k, (T1 k ∨ S1 k) → S2 k → False := fun k a b => a.elim (fun a => t3 k a (g5 k b)) (fun a => g3 k a b)
  have hd : ∀ k, S' k → S2 k → False := fun k a b => by
    rcases (hl' k a).2 with h1 | h1
    · exact hd2 k h1 b
    · have := (hl k (t5 k (g5 k b))).1
      omega
  refine ⟨?_, fun k => S' k ∨ S2 k, g6 C w' S' _ hB (fun k hk => hm'.block k (hl k (t5 k (g5 k hk))).1 fun h1 => hd2 k h1 hk) hd (fun k a => .inl a) (fun k a => .inr a), ?_⟩
  · refine ⟨hm'.os.trans hm.os, hm'.tape.trans hm.tape, hm'.output.trans hm.output, Nat.le_trans hm.size hm'.size, fun k hk hn => (hm'.block k (Nat.lt_of_lt_of_le hk hm.size) fun h1 => ?_).trans (hm.block k hk hn)⟩
    rcases (hl k (hlt k h1)).2 with h2 | h2
    · exact hn h2
    · omega
  · rintro k (hk | hk)
    · refine ⟨(hl' k hk).1, ?_⟩
      rcases (hl' k hk).2 with h1 | h1
      · exact (hl k (hlt k h1)).2
      · exact .inr (Nat.le_trans hm.size h1)
    · exact ⟨Nat.lt_of_lt_of_le (hl k (t5 k (g5 k hk))).1 hm'.size, (hl k (t5 k (g5 k hk))).2⟩
end

/-! ### what is read, as cells -/
section
variable {α : Type} {d : Kd α} {o : Ow d} {w w' : World}
theorem cells_of_rows (sz : Nat) (ad : Addr) (Kk : α → List Value → Prop) : ∀ (xs : List α) (off : Nat), (∀ j p, xs[j]? = some p → ∃ c, c.length = sz ∧ Kk p c ∧ ∀ i u, c[i]? = some u → w.cell? (ad.add ((off + j) * sz + i)) = some u) →
    ∃ nss : List (List Value), nss.length = xs.length ∧ (∀ vs ∈ nss, vs.length = sz) ∧ (∀ (j : Nat) (x : α) (vs : List Value), xs[j]? = some x → nss[j]? = some vs → Kk x vs) ∧ ∀ j u, nss.flatten[j]? = some u → w.cell? (ad.add (off * sz + j)) = some u
  | [], off, _ => ⟨[], rfl, fun _ h => absurd h List.not_mem_nil, fun j x vs h => by simp at h, fun j u h => by simp at h⟩
  | x :: xs, off, h => by
    obtain ⟨c, hc, hk, hcell⟩ := h 0 x rfl
    obtain ⟨nss, h1, h2, h3, h4⟩ := cells_of_rows sz ad Kk xs (off + 1) (fun j p hj => by
      obtain ⟨c, a, b, e⟩ := h (j + 1) p hj
      exact ⟨c, a, b, fun i u hu => by rw [show off + 1 + j = off + (j + 1) by omega]; exact e i u hu⟩)
    refine ⟨c :: nss, by simp [h1], fun vs hv => (List.mem_cons.1 hv).elim (fun e => by rw [e]; exact hc) (h2 vs), ?_, fun j u hj => ?_⟩
    · rintro (_ | j) y vs hy hv
      · simp at hy hv
        subst hy hv
        exact hk
      · exact h3 j y vs (by simpa using hy) (by simpa using hv)
    · rw [List.flatten_cons] at hj
      rcases Nat.lt_or_ge j c.length with hlt | hge
      · rw [List.getElem?_append_left hlt] at hj
        simpa using hcell j u hj
      · rw [List.getElem?_append_right hge] at hj
        have := h4 _ u hj
        rwa [hc, show (off + 1) * sz + (j - sz) = off * sz + j by rw [Nat.add_mul]; omega] at this
theorem C_cells {A : Option Addr} {n : Nat} {xs : List α} (h : d.C w A n xs) : ∃ nss : List (List Value), nss.length = xs.length ∧ (∀ vs ∈ nss, vs.length = d.sz) ∧ (∀ (j : Nat) (x : α) (vs : List Value), xs[j]? = some x → nss[j]? = some vs → d.K w x vs) ∧
    (∀ ad, A = some ad → ∀ j u, nss.flatten[j]? = some u → w.cell? (ad.add j) = some u) ∧ (A = none → xs = []) := by
  obtain ⟨h1, h2, h3⟩ := h
  cases xs with
  | nil => exact ⟨[], rfl, fun _ h => absurd h List.not_mem_nil, fun j x vs h => by simp at h, fun ad _ j u h => by simp at h, fun _ => rfl⟩
  | cons x xs =>
    obtain ⟨ad, rfl, hc⟩ := h3 (by rw [← h1]; simp)
    obtain ⟨nss, g1, g2, g3, g4⟩ := cells_of_rows d.sz ad (d.K w) (x :: xs) 0 (fun j p hj => by
      obtain ⟨c, a, b, e⟩ := hc j p hj
      exact ⟨c, a, b, fun i u hu => by rw [Nat.zero_add]; exact e i u hu⟩)
    exact ⟨nss, g1, g2, g3, fun ad' e j u hj => by cases e; simpa using g4 j u hj, fun e => by cases e⟩
/-- One cell's row, or one element's, as it is read. -/
theorem C_one {x : α} {cs : List Value} {ad : Addr} (hk : d.K w x cs) (hc : ∀ j u, cs[j]? = some u → w.cell? (ad.add j) = some u) : d.C w (some ad) [x].length [x] := by
  refine ⟨rfl, by simp, fun _ => ⟨ad, rfl, fun j p hj => ?_⟩⟩
  cases j with
  | zero =>
    simp at hj
    subst hj
    exact ⟨cs, d.K_len hk, hk, fun i u hu => by simpa using hc i u hu⟩
  | succ j => simp at hj
end

/-! ### append -/
section
variable {P : Program} {f : FuncId} {n : Nat} {R : Ending → World → Prop} {k : List Item} {τ : Tm} {w0 w : World} {S0 : Fp} {L F : List Asn} {K : Asn → List Asn} {ops : Array Oper} {i : Nat} {rest : List Nat} {o : Oper}
variable {α β : Type} {dk : Kd α} {ow : Ow dk}
/-- What append comes to: elements that are flat, out of a row that is read. -/
theorem append_flat {t ty e : TypeId} {z : Value} {bytes c c2 : Nat} {A A2 : Option Addr} {xs news : List α}
    (ht : P.underlying t = some (.slice e)) (hinfo : (P.info? e).map (fun i => (i.zero, i.size, i.bytes)) = some (some z, dk.sz, bytes)) (hzs : z.cells.size = dk.sz) (hsz : 0 < dk.sz)
    (hfl : Flat ow) (H : St w0 S0 L w) (hu : U L (Rw ow e (.slice A xs.length c) xs) K) (hsrc : dk.C w A2 news.length news) (hbytes : (xs.length + news.length) * bytes ≤ 140737488355328) (hlen : xs.length + news.length ≤ 9223372036854775807) :
    ∃ A' c' w', (Builtin.append_ #[t, t] ty #[.slice A xs.length c, .slice A2 news.length c2]).run P w = .ok (.slice A' (xs ++ news).length c') w' ∧ St w0 S0 (K (Rw ow e (.slice A' (xs ++ news).length c') (xs ++ news))) w' := by
  obtain ⟨inf, hi, hzz⟩ := Option.map_eq_some_iff.1 hinfo
  simp only [Prod.mk.injEq] at hzz
  obtain ⟨hz, hsize, hby⟩ := hzz
  obtain ⟨S, ⟨vss, h1, h2, h3⟩, hl, hre⟩ := H.opn hu
  obtain ⟨nss, g1, g2, g3, g4, g5⟩ := C_cells hsrc
  have hfl2 : nss.flatten.length = news.length * dk.sz := by rw [flat_len g2, g1]
  have hone : ∀ u ∈ nss.flatten, u.oneCell' = true := by
    intro u hu'
    obtain ⟨vs, hv, hu''⟩ := List.mem_flatten.1 hu'
    obtain ⟨j, hj, e⟩ := List.getElem_of_mem hv
    obtain ⟨x, hx⟩ : ∃ x, news[j]? = some x := ⟨_, List.getElem?_eq_getElem (by omega)⟩
    exact dk.K_one (g3 j x vs hx (by rw [List.getElem?_eq_getElem hj, e])) u hu''
  have key : ∃ v' w', (Builtin.append_ #[t, t] ty #[.slice A xs.length c, .slice A2 news.length c2]).run P w = .ok v' w' ∧ w'.ownsRow 0 e dk.sz v' (xs.length + news.length) (vss.flatten ++ nss.flatten) ∧ Mut (fun k => some k = (Value.slice A xs.length c).ownBlock) w w' ∧
      (v'.ownBlock = (Value.slice A xs.length c).ownBlock ∨ v'.ownBlock = some w.heap.size) := by
    cases A2 with
    | none =>
      have hn := g5 rfl
      subst hn
      have hnn : nss = [] := List.eq_nil_of_length_eq_zero g1
      subst hnn
      refine ⟨.slice A xs.length c, w, ?_, by simpa using h2, Mut.refl w, .inl rfl⟩
      rcases h2.2 with ⟨he, h0⟩ | ⟨g, cap, cur, he, _, _, hnc, _⟩
      · rw [he]
        simp [Builtin.append_, run_underlying ht, sizeOf, typeInfo, hi, Builtin.lenOf, Builtin.firstCells]
      · cases he
        simp [Builtin.append_, run_underlying ht, sizeOf, typeInfo, hi, Builtin.lenOf, Builtin.firstCells, hnc, storeCells]
    | some ad =>
      obtain ⟨v', w', hr, e2, e3, _, e5⟩ := run_append_own_at (P := P) w 0 t ty e inf z dk.sz bytes ht hi hz hsize hby hzs hsz _ _ _ h2 ad news.length c2 nss.flatten hfl2 (g4 ad rfl) hone (by simp only [maxLen]; omega) hbytes (Nat.zero_le _)
      exact ⟨v', w', hr, e2, Mut.of_grown e3, e5⟩
  obtain ⟨v', w', hr, hown, hmut, hat_⟩ := key
  obtain ⟨A', c', rfl, hnc⟩ := own_slice_ hown
  have el : xs.length + news.length = (xs ++ news).length := by simp
  rw [el] at hr hown hat_
  have hb' : ∀ k, (Value.slice A' (xs ++ news).length c').ownBlock = some k → k < w'.heap.size := fun k hk => own_lt hown k hk
  refine ⟨A', c', w', hr, hre (Rw ow e (.slice A' (xs ++ news).length c') (xs ++ news)) w' (fun k => S k ∨ (Value.slice A' (xs ++ news).length c').ownBlock = some k) (hmut.mono fun k _ hk => h1 k hk.symm) ⟨vss ++ nss, fun k hk => .inr hk, by rw [List.flatten_append]; exact hown, ?_⟩ fun k hk => ?_⟩
  · refine bigs_app (S1 := fun k => S k ∧ some k ≠ (Value.slice A xs.length c).ownBlock) (S2 := Em) (bigs_stab h3 fun k hk => hmut.block k (hl k hk.1) hk.2) (bigs_flat hfl g1 fun j x vs hx hv => ow.toK (ow.stab (w' := w') (hfl (g3 j x vs hx hv)) fun _ h => h.elim)) (fun _ _ h => h) (fun k hk => ⟨.inl hk.1, fun e => ?_⟩) (fun _ h => h.elim)
    · have e' := e
      rcases hat_ with h | h
      · exact hk.2 (e'.trans h)
      · rw [h] at e'
        have e := e'
        have := hl k hk.1
        simp at e
        omega
  · rcases hk with hk | hk
    · exact ⟨Nat.lt_of_lt_of_le (hl k hk) hmut.size, .inl hk⟩
    · refine ⟨hb' k hk, ?_⟩
      rcases hat_ with h | h
      · exact .inl (h1 k (h ▸ hk))
      · have hk' := hk
        rw [h] at hk'
        simp at hk'
        exact .inr (by omega)
/-- append of one element with what it owns. -/
theorem append_own1 {t ty e : TypeId} {z : Value} {bytes c c2 : Nat} {A : Option Addr} {ad : Addr} {xs : List α} {x : α} {vs : List Value}
    (ht : P.underlying t = some (.slice e)) (hinfo : (P.info? e).map (fun i => (i.zero, i.size, i.bytes)) = some (some z, dk.sz, bytes)) (hzs : z.cells.size = dk.sz) (hsz : 0 < dk.sz)
    (H : St w0 S0 (El ow x vs :: F) w) (hu : U F (Rw ow e (.slice A xs.length c) xs) K) (hsrc : ∀ j u, vs[j]? = some u → w.cell? (ad.add j) = some u) (hbytes : (xs.length + 1) * bytes ≤ 140737488355328) (hlen : xs.length + 1 ≤ 9223372036854775807) :
    ∃ A' c' w', (Builtin.append_ #[t, t] ty #[.slice A xs.length c, .slice (some ad) 1 c2]).run P w = .ok (.slice A' (xs ++ [x]).length c') w' ∧ St w0 S0 (K (Rw ow e (.slice A' (xs ++ [x]).length c') (xs ++ [x]))) w' := by
  obtain ⟨inf, hi, hzz⟩ := Option.map_eq_some_iff.1 hinfo
  simp only [Prod.mk.injEq] at hzz
  obtain ⟨hz, hsize, hby⟩ := hzz
  obtain ⟨S1, S, hx, ⟨vss, h1, h2, h3⟩, hd, hl, hre⟩ := H.opn2 hu
  obtain ⟨v', w', hr, hown, e3, _, hat_⟩ := run_append_own_at (P := P) w 0 t ty e inf z dk.sz bytes ht hi hz hsize hby hzs hsz _ _ _ h2 ad 1 c2 vs (by rw [ow.len hx, Nat.one_mul]) hsrc (ow.one hx) (by simp only [maxLen]; omega) hbytes (Nat.zero_le _)
  have hmut := Mut.of_grown e3
  obtain ⟨A', c', rfl, hnc⟩ := own_slice_ hown
  have el : xs.length + 1 = (xs ++ [x]).length := by simp
  rw [el] at hr hown hat_
  refine ⟨A', c', w', hr, hre (Rw ow e (.slice A' (xs ++ [x]).length c') (xs ++ [x])) w' (fun k => (S1 k ∨ S k) ∨ (Value.slice A' (xs ++ [x]).length c').ownBlock = some k) (hmut.mono fun k _ hk => .inr (h1 k hk.symm)) ⟨vss ++ [vs], fun k hk => .inr hk, by rw [List.flatten_append]; simpa using hown, ?_⟩ fun k hk => ?_⟩
  · have hne : ∀ k, k < w.heap.size → some k ≠ (Value.slice A xs.length c).ownBlock → some k ≠ (Value.slice A' (xs ++ [x]).length c').ownBlock := fun k hk hn e => by
      rcases hat_ with h | h
      · rw [h] at e
        exact hn e
      · rw [h] at e
        simp at e
        omega
    have hs1 : ∀ k, S1 k → some k ≠ (Value.slice A xs.length c).ownBlock := fun k hk e => hd k hk (h1 k e.symm)
    refine bigs_app (S1 := fun k => S k ∧ some k ≠ (Value.slice A xs.length c).ownBlock) (S2 := S1) (bigs_stab h3 fun k hk => hmut.block k (hl k (.inr hk.1)) hk.2) ⟨S1, Em, ow.stab hx (fun k hk => hmut.block k (hl k (.inl hk)) (hs1 k hk)), trivial, fun _ _ h => h, fun _ h => h, fun _ h => h.elim⟩ (fun k a b => hd k b a.1) (fun k hk => ⟨.inl (.inr hk.1), hne k (hl k (.inr hk.1)) hk.2⟩) (fun k hk => ⟨.inl (.inl hk), hne k (hl k (.inl hk)) (hs1 k hk)⟩)
  · rcases hk with hk | hk
    · exact ⟨Nat.lt_of_lt_of_le (hl k hk) hmut.size, .inl hk⟩
    · refine ⟨own_lt hown k hk, ?_⟩
      rcases hat_ with h | h
      · exact .inl (.inr (h1 k (h ▸ hk)))
      · have hk' := hk
        rw [h] at hk'
        simp at hk'
        exact .inr (by omega)
theorem r_append {t : TypeId} {s x : Operand} {v1 v2 v : Value} {w' : World} {ρ : Operand → Value} (hop : o.op = .call { callee := .builtin .append, args := #[s, x], argTypes := #[t, t] }) (hs : ρ s = v1) (hx : ρ x = v2) (hr : (Builtin.append_ #[t, t] o.type #[v1, v2]).run P w = .ok v w') :
    (execOp ρ o).run P w = .ok (.value v) w' := by
  simp only [execOp, hop, resolve, invoke, builtin, Sem.run_bind, Sem.run_pure, Sem.run_pure', Result.andThen_ok, List.map_toArray, List.map_cons, List.map_nil, hs, hx, hr]
theorem WO.sappend (d : Nat) {t e : TypeId} {z : Value} {bytes c c2 : Nat} {s x : Operand} {A A2 : Option Addr} {xs news : List α} (ho : ops[i]? = some o) (hk : okOp n ops τ o d true = true)
    (hop : o.op = .call { callee := .builtin .append, args := #[s, x], argTypes := #[t, t] }) (ht : P.underlying t = some (.slice e)) (hinfo : (P.info? e).map (fun i => (i.zero, i.size, i.bytes)) = some (some z, dk.sz, bytes)) (hzs : z.cells.size = dk.sz) (hsz : 0 < dk.sz)
    (hs : ev τ s = .slice A xs.length c) (hx : ev τ x = .slice A2 news.length c2) (hfl : Flat ow) (H : St w0 S0 L w) (hu : U L (Rw ow e (.slice A xs.length c) xs) K) (hsrc : dk.C w A2 news.length news) (hbytes : (xs.length + news.length) * bytes ≤ 140737488355328) (hlen : xs.length + news.length ≤ 9223372036854775807)
    (h : ∀ A' c' w', St w0 S0 (K (Rw ow e (.slice A' (xs ++ news).length c') (xs ++ news))) w' → WO P f n R ops k rest (upd τ d (.slice A' (xs ++ news).length c')) w') : WO P f n R ops k (i :: rest) τ w := by
  obtain ⟨A', c', w', hr, H'⟩ := append_flat (c2 := c2) (ty := o.type) ht hinfo hzs hsz hfl H hu hsrc hbytes hlen
  exact WO.v d ho hk (r_append hop hs hx hr) (h A' c' w' H')
theorem WO.sappend1 (d : Nat) {t e : TypeId} {z : Value} {bytes c c2 : Nat} {s x : Operand} {A : Option Addr} {ad : Addr} {xs : List α} {x1 : α} {vs : List Value} (ho : ops[i]? = some o) (hk : okOp n ops τ o d true = true)
    (hop : o.op = .call { callee := .builtin .append, args := #[s, x], argTypes := #[t, t] }) (ht : P.underlying t = some (.slice e)) (hinfo : (P.info? e).map (fun i => (i.zero, i.size, i.bytes)) = some (some z, dk.sz, bytes)) (hzs : z.cells.size = dk.sz) (hsz : 0 < dk.sz)
    (hs : ev τ s = .slice A xs.length c) (hx : ev τ x = .slice (some ad) 1 c2) (H : St w0 S0 (El ow x1 vs :: F) w) (hu : U F (Rw ow e (.slice A xs.length c) xs) K) (hsrc : ∀ j u, vs[j]? = some u → w.cell? (ad.add j) = some u) (hbytes : (xs.length + 1) * bytes ≤ 140737488355328) (hlen : xs.length + 1 ≤ 9223372036854775807)
    (h : ∀ A' c' w', St w0 S0 (K (Rw ow e (.slice A' (xs ++ [x1]).length c') (xs ++ [x1]))) w' → WO P f n R ops k rest (upd τ d (.slice A' (xs ++ [x1]).length c')) w') : WO P f n R ops k (i :: rest) τ w := by
  obtain ⟨A', c', w', hr, H'⟩ := append_own1 (c2 := c2) (ty := o.type) ht hinfo hzs hsz H hu hsrc hbytes hlen
  exact WO.v d ho hk (r_append hop hs hx hr) (h A' c' w' H')
end
end Go.Proofs.Ytojpimpfpjhflaa.Fw
namespace Go.Proofs.Ytojpimpfpjhflaa.Fw
open Go Go.RowKit Go.Proofs.YtojpimpfpjhflaaW.PrintWords
set_option linter.unusedVariables false
set_option linter.unusedSimpArgs false

theorem add_gg {g a b : Nat} : (⟨g, a, none⟩ : Addr).add b = ⟨g, a + b, none⟩ := by unfold Addr.add; split <;> simp_all
section
variable {P : Program} {w0 w w' : World} {S0 : Fp} {L F : List Asn} {K : Asn → List Asn} {α β : Type} {dk : Kd α} {ow : Ow dk} {e g i n c : Nat} {xs : List α}
theorem bigs_em {w2 : World} : ∀ {xs : List α} {vss : List (List Value)}, vss.length = xs.length → (∀ (j : Nat) (x : α) (vs : List Value), xs[j]? = some x → vss[j]? = some vs → ow.own w2 Em x vs) → bigs ow w2 Em xs vss
  | [], [], _, _ => trivial
  | x :: xs, vs :: vss, hl, hk => ⟨Em, Em, hk 0 x vs rfl rfl, bigs_em (by simpa using hl) (fun j x vs hx hv => hk (j + 1) x vs hx hv), fun _ h => h.elim, fun _ h => h, fun _ h => h⟩
/-- A new row, its elements flat. -/
theorem St.row_new {vss : List (List Value)} (H : St w0 S0 L w) (hl : vss.length = xs.length) (hk : ∀ (j : Nat) (x : α) (vs : List Value), xs[j]? = some x → vss[j]? = some vs → ow.own w Em x vs) (hm : xs.length ≤ maxLen) :
    St w0 S0 (Rw ow e (.slice (some ⟨w.heap.size, 0, none⟩) xs.length xs.length) xs :: L) (w.alloc (.cells vss.flatten.toArray e)) := by
  have hk' : ∀ (j : Nat) (x : α) (vs : List Value), xs[j]? = some x → vss[j]? = some vs → ow.own (w.alloc (.cells vss.flatten.toArray e)) Em x vs := fun j x vs hx hv => ow.stab (hk j x vs hx hv) fun _ h => h.elim
  have hb := bigs_em hl hk'
  have hlen := bigs_len hb
  have hfl : vss.flatten.length = xs.length * dk.sz := by rw [flat_len hlen.2, hlen.1]
  refine H.new (B := Rw ow e (.slice (some ⟨w.heap.size, 0, none⟩) xs.length xs.length) xs) (Mut.of_alloc w _) (S' := fun k => k = w.heap.size) ⟨vss, fun k hk => by simpa [Value.ownBlock] using hk.symm, ?_, bigs_mono hb fun _ h => h.elim⟩ (fun k hk => by subst hk; exact ⟨by simp, Nat.le_refl _⟩)
  have := World.ownsRow_lit (base := 0) (e := e) (size := dk.sz) w vss.flatten.toArray xs.length (Nat.zero_le _) hm (by simpa using hfl)
  simpa using this
theorem made_flat (z : Array Value) (s : Nat) (hz : z.size = s) (hs : 0 < s) (n : Nat) : (List.replicate n z.toList).flatten = (madeCells z (n * s)).toList := by
  refine List.ext_getElem? fun j => ?_
  have hlen : ∀ vs ∈ List.replicate n z.toList, vs.length = s := fun vs hv => by rw [List.eq_of_mem_replicate hv, Array.length_toList, hz]
  have hfl : (List.replicate n z.toList).flatten.length = n * s := by rw [flat_len hlen, List.length_replicate]
  by_cases hj : j < n * s
  · have hd : j / s < n := by rw [Nat.div_lt_iff_lt_mul hs]; exact hj
    have hr : j % s < s := Nat.mod_lt _ hs
    have h1 := flat_at hlen (i := j / s) (vs := z.toList) (by simp [hd]) (j % s) hr
    rw [Nat.mul_comm, Nat.div_add_mod] at h1
    rw [h1]
    have hjm : j < (madeCells z (n * s)).size := by rw [size_madeCells]; exact hj
    rw [Array.getElem?_toList, Array.getElem?_toList, Array.getElem?_eq_getElem hjm, Array.getElem?_eq_getElem (show j % s < z.size by omega)]
    simp [madeCells, hz]
    rw [getElem!_pos z (j % s) (by omega)]
  · rw [List.getElem?_eq_none (by omega), List.getElem?_eq_none (by rw [Array.length_toList, size_madeCells]; omega)]
theorem make_row {t : TypeId} {z : Value} {bytes : Nat} {z0 : α} (ht : P.underlying t = some (.slice e)) (hinfo : (P.info? e).map (fun i => (i.zero, i.size, i.bytes)) = some (some z, dk.sz, bytes)) (hzs : z.cells.size = dk.sz) (hsz : 0 < dk.sz) (hb0 : 0 < bytes)
    (hz0 : ∀ w, ow.own w Em z0 z.cells.toList) (H : St w0 S0 L w) (n : Nat) (hl : n * bytes ≤ 281474976710656) :
    ∃ g w', (Instr.makeSlice t (.int .i64 n) (.int .i64 n)).run P w = .ok (.slice (some ⟨g, 0, none⟩) (List.replicate n z0).length n) w' ∧ St w0 S0 (Rw ow e (.slice (some ⟨g, 0, none⟩) (List.replicate n z0).length n) (List.replicate n z0) :: L) w' := by
  obtain ⟨i0, hi, hzz⟩ := Option.map_eq_some_iff.1 hinfo
  simp only [Prod.mk.injEq] at hzz
  obtain ⟨hz0', hz1, hz2⟩ := hzz
  have hm : n ≤ 281474976710656 := Nat.le_trans (Nat.le_mul_of_pos_right _ hb0) hl
  have hr := run_make (P := P) w t e i0 z ht hi hz0' .i64 .i64 (n : Int) (n : Int) (by omega) (by omega)
    (by
      have h3 : ((i0.bytes * n : Nat) : Int) ≤ 281474976710656 := by rw [hz2, Nat.mul_comm]; omega
      rwa [Int.natCast_mul] at h3) (by omega)
  simp only [Int.toNat_natCast] at hr
  rw [hz1] at hr
  have h1 := H.row_new (ow := ow) (e := e) (xs := List.replicate n z0) (vss := List.replicate n z.cells.toList) (by simp) (fun j x vs hx hv => by
    have e1 := List.eq_of_mem_replicate (List.mem_of_getElem? hx)
    have e2 := List.eq_of_mem_replicate (List.mem_of_getElem? hv)
    rw [e1, e2]
    exact hz0 w) (by simp only [List.length_replicate, maxLen]; omega)
  have hcell : (List.replicate n z.cells.toList).flatten.toArray = madeCells z.cells (n * dk.sz) := by rw [made_flat z.cells dk.sz hzs hsz n]
  rw [hcell] at h1
  have hlr : (List.replicate n z0).length = n := by simp
  refine ⟨w.heap.size, _, by rw [hr, hlr], ?_⟩
  rw [hlr] at h1 ⊢
  exact h1
/-! ### stores into elements -/
theorem own_stores {base e' s m c' : Nat} : ∀ (vs2 : List Value) (k : Nat) (us : List Value) (vss : List (List Value)) (w : World), w.ownsRow base e' s (.slice (some ⟨g, 0, none⟩) m c') m vss.flatten → vss[i]? = some us → (∀ vs ∈ vss, vs.length = s) → k + vs2.length = s → (∀ u ∈ vs2, u.oneCell' = true) →
    ∃ w', (storeCells ⟨g, i * s, none⟩ vs2 k).run P w = .ok () w' ∧ w'.heap.size = w.heap.size ∧ w'.ownsRow base e' s (.slice (some ⟨g, 0, none⟩) m c') m (vss.set i (us.take k ++ vs2)).flatten ∧ Mut (fun k => k = g) w w'
  | [], k, us, vss, w, ho, hi, hs, hk, h1 => by
    have hus := hs us (List.mem_of_getElem? hi)
    refine ⟨w, by simp [storeCells], rfl, ?_, Mut.refl w⟩
    rw [List.append_nil, List.take_of_length_le (by simp at hk; omega)]
    rw [show vss.set i us = vss by
      refine List.ext_getElem? fun m => ?_
      rw [List.getElem?_set]
      split
      · subst_vars
        rw [hi]
        simp [(List.getElem?_eq_some_iff.1 hi).1]
      · rfl]
    exact ho
  | v :: vs2, k, us, vss, w, ho, hi, hs, hk, h1 => by
    have hus := hs us (List.mem_of_getElem? hi)
    have hks : k < s := by simp at hk; omega
    have hil := (List.getElem?_eq_some_iff.1 hi).1
    have hfl : vss.flatten.length = vss.length * s := flat_len hs
    have hle : i * s + s ≤ vss.length * s := by rw [← Nat.succ_mul]; exact Nat.mul_le_mul_right _ hil
    obtain ⟨hA, hB⟩ := ho
    have hj : i * s + k < vss.flatten.length := by omega
    have ho : w.ownsRow base e' s (.slice (some ⟨g, 0, none⟩) m c') m vss.flatten := ⟨hA, hB⟩
    have hm : 0 < m := by
      rcases Nat.eq_zero_or_pos m with h | h
      · rw [h, Nat.zero_mul] at hA; omega
      · exact h
    obtain ⟨g', c2, he, _, _, hlt, hcell⟩ := own_at ho hm
    cases he
    have hc : w.cell? ((⟨g, i * s, none⟩ : Addr).add k) = some vss.flatten[i * s + k] := by rw [add_gg]; exact hcell _ _ (List.getElem?_eq_getElem hj)
    have hth : w.frozen? ((⟨g, i * s, none⟩ : Addr).add k) = false := by
      rw [add_gg]
      rcases hB with ⟨h, _⟩ | ⟨g', cap, cur, he, _, hh, _⟩
      · cases h
      · cases he
        simp [World.frozen?, hh]
    have ho2 := own_set (u := v) ho hj
    rw [flat_set hs hi k v hks] at ho2
    obtain ⟨w', hr, hsz, ho3, hmut⟩ := own_stores vs2 (k + 1) (us.set k v) (vss.set i (us.set k v)) _ ho2 (by simp [hil]) (fun vs hv => by
      rcases List.mem_or_eq_of_mem_set hv with h | h
      · exact hs vs h
      · rw [h, List.length_set, hus]) (by simp at hk; omega) (fun x hx => h1 x (List.mem_cons_of_mem _ hx))
    refine ⟨w', ?_, hsz.trans (by simp [World.setCell]), ?_, (Mut.of_set w ⟨g, i * s + k, none⟩ v).trans hmut⟩
    · simp only [storeCells, Sem.run_bind]
      rw [run_store_ (h1 v List.mem_cons_self) hc hth]
      simp only [Result.andThen_ok]
      rw [add_gg]
      exact hr
    · rw [List.set_set] at ho3
      have e1 : (us.set k v).take (k + 1) ++ vs2 = us.take k ++ v :: vs2 := by
        rw [List.take_add_one, List.getElem?_set_self (by omega), Option.toList_some, List.append_assoc, List.take_set_of_le (Nat.le_refl k)]
        rfl
      rw [e1] at ho3
      exact ho3
/-- An element is put into a row: x1 with what it owns. -/
theorem row_put {x1 : α} {vs : List Value} (H : St w0 S0 (El ow x1 vs :: F) w) (hu : U F (Rw ow e (.slice (some ⟨g, 0, none⟩) xs.length c) xs) K) (hi : i < xs.length) :
    ∃ w', (storeCells ⟨g, i * dk.sz, none⟩ vs 0).run P w = .ok () w' ∧ St w0 S0 (K (Rw ow e (.slice (some ⟨g, 0, none⟩) xs.length c) (xs.set i x1))) w' := by
  obtain ⟨S1, S2, hx, ⟨vss, h1, h2, h3⟩, hd, hl, hre⟩ := H.opn2 hu
  obtain ⟨hlen, hs⟩ := bigs_len h3
  obtain ⟨us, T1, T2, e1, e2, e3, e4, e5, e6⟩ := bigs_take h3 (List.getElem?_eq_getElem hi)
  obtain ⟨w', hr, hsz, ho, hm⟩ := own_stores (P := P) (i := i) vs 0 us vss w h2 e1 hs (by rw [ow.len hx]; omega) (ow.one hx)
  refine ⟨w', hr, hre (Rw ow e (.slice (some ⟨g, 0, none⟩) xs.length c) (xs.set i x1)) w' (fun k => S1 k ∨ S2 k) (hm.mono fun k _ hk => .inr (h1 k (by rw [hk]; rfl))) ⟨vss.set i vs, fun k hk => .inr (h1 k hk), by rw [List.length_set]; simpa using ho, ?_⟩ fun k hk => ⟨by rw [hsz]; exact hl k hk, .inl hk⟩⟩
  have hg2 : S2 g := h1 g rfl
  have hne : ∀ k, S1 k → k ≠ g := fun k hk e => hd k hk (e ▸ hg2)
  have hlk : ∀ k, k < w.heap.size → k ≠ g → w'.heap[k]? = w.heap[k]? := fun k hk e => hm.block k hk e
  refine bigs_back (S1 := S1) (S2 := T2) (bigsH_stab e3 fun k hk => ?_) (ow.stab hx fun k hk => hlk k (hl k (.inl hk)) (hne k hk)) (fun k a b => hd k a (e6 k b).1) (fun k hk => ⟨.inl hk, fun e => hne k hk ?_⟩) (fun k hk => ⟨.inr (e6 k hk).1, (e6 k hk).2⟩)
  · have := e6 k hk
    exact hlk k (hl k (.inr this.1)) (fun e => this.2 (by rw [e]; rfl))
  · simpa [Value.ownBlock] using e
end
section
variable {P : Program} {f : FuncId} {n : Nat} {R : Ending → World → Prop} {k : List Item} {τ : Tm} {w0 w : World} {S0 : Fp} {L F : List Asn} {K : Asn → List Asn} {ops : Array Oper} {i : Nat} {rest : List Nat} {o : Oper}
variable {α β : Type} {dk : Kd α} {ow : Ow dk}
theorem WO.smake (d : Nat) {t e : TypeId} {z : Value} {bytes : Nat} {x y : Operand} {m : Nat} (z0 : α) (ho : ops[i]? = some o) (hk : okOp n ops τ o d true = true) (hop : o.op = .makeSlice t x y) (hx : ev τ x = .int .i64 m) (hy : ev τ y = .int .i64 m)
    (ht : P.underlying t = some (.slice e)) (hinfo : (P.info? e).map (fun i => (i.zero, i.size, i.bytes)) = some (some z, dk.sz, bytes)) (hzs : z.cells.size = dk.sz) (hsz : 0 < dk.sz) (hb0 : 0 < bytes)
    (hz0 : ∀ w, ow.own w Em z0 z.cells.toList) (H : St w0 S0 L w) (hl : m * bytes ≤ 281474976710656)
    (h : ∀ g w', St w0 S0 (Rw ow e (.slice (some ⟨g, 0, none⟩) (List.replicate m z0).length m) (List.replicate m z0) :: L) w' → WO P f n R ops k rest (upd τ d (.slice (some ⟨g, 0, none⟩) (List.replicate m z0).length m)) w') : WO P f n R ops k (i :: rest) τ w := by
  obtain ⟨g, w', hr, H'⟩ := make_row (P := P) ht hinfo hzs hsz hb0 hz0 H m hl
  exact WO.v d ho hk (by simp [execOp, hop, hx, hy, hr]) (h g w' H')
theorem r_storeAt {t : TypeId} {x y : Operand} {a : Addr} {v : Value} {vs : List Value} {sz : Nat} {w' : World} {ρ : Operand → Value} (hop : o.op = .store t x y) (hx : ρ x = .pointer (some a)) (hy : ρ y = v) (hv : v.cells = vs.toArray) (hz : ∀ w, (sizeOf t).run P w = .ok sz w) (hsz : vs.length = sz)
    (hr : (storeCells a vs 0).run P w = .ok () w') : (execOp ρ o).run P w = .ok .skip w' := by
  simp only [execOp, hop, hx, hy, Instr.storeAt, Instr.sureAddr, storeVar, hv, Sem.run_bind, Sem.run_pure, Sem.run_pure', Result.andThen_ok, hz, List.size_toArray, hsz, ne_eq, not_true_eq_false, if_false, hr]
/-- A store of a whole element into a row; what it owns goes with it. -/
theorem WO.sput {t e : TypeId} {x y : Operand} {g q j c sz : Nat} {x1 : α} {xs : List α} {v : Value} {vs : List Value} (ho : ops[i]? = some o) (hk : okOp0 ops τ o = true) (hop : o.op = .store t x y) (hx : ev τ x = .pointer (some ⟨g, q, none⟩)) (hy : ev τ y = v) (hv : v.cells = vs.toArray)
    (hz : ∀ w, (sizeOf t).run P w = .ok sz w) (hsz : vs.length = sz) (H : St w0 S0 (El ow x1 vs :: F) w) (hu : U F (Rw ow e (.slice (some ⟨g, 0, none⟩) xs.length c) xs) K) (hj : j < xs.length) (hq : q = j * dk.sz)
    (h : ∀ w', St w0 S0 (K (Rw ow e (.slice (some ⟨g, 0, none⟩) xs.length c) (xs.set j x1))) w' → WO P f n R ops k rest τ w') : WO P f n R ops k (i :: rest) τ w := by
  subst hq
  obtain ⟨w', hr, H'⟩ := row_put (P := P) H hu hj
  exact WO.u ho hk (r_storeAt hop hx hy hv hz hsz hr) (h w' H')
/-- A store into one cell of an element. -/
theorem WO.scell {t e : TypeId} {x y : Operand} {g q j r c : Nat} {x0 x1 : α} {xs : List α} {v : Value} (ho : ops[i]? = some o) (hk : okOp0 ops τ o = true) (hop : o.op = .store t x y) (hx : ev τ x = .pointer (some ⟨g, q, none⟩)) (hy : ev τ y = v) (h1 : v.oneCell' = true)
    (hz : ∀ w, (sizeOf t).run P w = .ok 1 w) (H : St w0 S0 L w) (hu : U L (Rw ow e (.slice (some ⟨g, 0, none⟩) xs.length c) xs) K) (hi : xs[j]? = some x0) (hq : q = j * dk.sz + r) (hr : r < dk.sz)
    (hset : ∀ w S vs, ow.own w S x0 vs → ow.own w S x1 (vs.set r v))
    (h : ∀ w', St w0 S0 (K (Rw ow e (.slice (some ⟨g, 0, none⟩) xs.length c) (xs.set j x1))) w' → WO P f n R ops k rest τ w') : WO P f n R ops k (i :: rest) τ w := by
  subst hq
  obtain ⟨S, ⟨vss, h1', h2, h3⟩, hl, hre⟩ := H.opn hu
  obtain ⟨hlen, hs⟩ := bigs_len h3
  have hjl : j < xs.length := (List.getElem?_eq_some_iff.1 hi).1
  obtain ⟨us, T1, T2, e1, e2, e3, e4, e5, e6⟩ := bigs_take h3 hi
  have hfl := flat_len hs
  have hle : j * dk.sz + dk.sz ≤ xs.length * dk.sz := by rw [← Nat.succ_mul]; exact Nat.mul_le_mul_right _ hjl
  have hjj : j * dk.sz + r < vss.flatten.length := by rw [hfl, hlen]; omega
  obtain ⟨g', c2, he, _, _, hlt, hcell⟩ := own_at h2 (by omega)
  cases he
  have hth : w.frozen? ⟨g, j * dk.sz + r, none⟩ = false := by
    rcases h2.2 with ⟨h, _⟩ | ⟨g', cap, cur, he, _, hh, _⟩
    · cases h
    · cases he
      simp [World.frozen?, hh]
  have ho2 := own_set (u := v) h2 hjj
  rw [flat_set hs e1 r v hr] at ho2
  refine WO.u ho hk (r_store hop hx hy h1 hz (hcell _ _ (List.getElem?_eq_getElem hjj)) hth) (h _ (hre (Rw ow e (.slice (some ⟨g, 0, none⟩) xs.length c) (xs.set j x1)) _ S ((Mut.of_set w ⟨g, j * dk.sz + r, none⟩ v).mono fun k _ hk => h1' k (by rw [hk]; rfl)) ⟨vss.set j (us.set r v), h1', by rw [List.length_set]; exact ho2, ?_⟩ fun k hk => ⟨by simpa [World.setCell] using hl k hk, .inl hk⟩))
  have hfar : ∀ k, k ≠ g → (w.setCell ⟨g, j * dk.sz + r, none⟩ v).heap[k]? = w.heap[k]? := fun k hk => Below.heap_setCell _ _ _ _ hk
  have hng : ∀ k, (S k ∧ some k ≠ (Value.slice (some ⟨g, 0, none⟩) xs.length c).ownBlock) → k ≠ g := fun k hk e => hk.2 (by rw [e]; rfl)
  exact bigs_back (S1 := T1) (S2 := T2) (bigsH_stab e3 fun k hk => hfar k (hng k (e6 k hk))) (ow.stab (hset _ _ _ e2) fun k hk => hfar k (hng k (e5 k hk))) e4 e5 e6
/-- A row within an element's place: told as an element. -/
theorem St.elR {d1 : Kd β} {o1 : Ow d1} {e1 : Nat} {v1 : Value} {x : List β} (H : St w0 S0 L w) (hu : U L (Rw o1 e1 v1 x) K) : St w0 S0 (K (El (Ow.slice e1 o1) x [v1])) w := H.imp hu fun S hS _ => ⟨v1, rfl, hS⟩
theorem St.elF {x : α} {vs : List Value} (hf : Flat ow) (H : St w0 S0 L w) (hk : dk.K w x vs) : St w0 S0 (El ow x vs :: L) w := H.emp (B := El ow x vs) (hf hk)
end
end Go.Proofs.Ytojpimpfpjhflaa.Fw
namespace Go.Proofs.Ytojpimpfpjhflaa.Fw
open Go Go.RowKit Go.Proofs.YtojpimpfpjhflaaW.PrintWords
set_option linter.unusedVariables false
set_option linter.unusedSimpArgs false

/-- With enough rounds the answer is r. -/
def Evt {α : Type} (g : Nat → Option α) (r : α) : Prop := ∃ K, ∀ k, K ≤ k → g k = some r
section
variable {α β γ : Type}
theorem Evt.now {g : Nat → Option α} {r : α} (h : ∀ k, g k = some r) : Evt g r := ⟨0, fun k _ => h k⟩
theorem Evt.const (r : α) : Evt (fun _ => some r) r := .now fun _ => rfl
theorem Evt.succ {g h : Nat → Option α} {r : α} (hs : ∀ k, g (k + 1) = h k) (hh : Evt h r) : Evt g r := by
  obtain ⟨K, hK⟩ := hh
  refine ⟨K + 1, fun k hk => ?_⟩
  obtain ⟨m, rfl⟩ : ∃ m, k = m + 1 := ⟨k - 1, by omega⟩
  rw [hs]
  exact hK m (by omega)
theorem Evt.bind {f : Nat → Option α} {g : Nat → α → Option β} {a : α} {b : β} (hf : Evt f a) (hg : Evt (fun k => g k a) b) : Evt (fun k => (f k).bind (g k)) b := by
  obtain ⟨K1, h1⟩ := hf
  obtain ⟨K2, h2⟩ := hg
  exact ⟨K1 + K2, fun k hk => by show (f k).bind (g k) = _; rw [h1 k (by omega)]; exact h2 k (by omega)⟩
theorem Evt.congr {g h : Nat → Option α} {r : α} (hs : ∀ k, g k = h k) (hh : Evt h r) : Evt g r := by
  obtain ⟨K, hK⟩ := hh
  exact ⟨K, fun k hk => (hs k).trans (hK k hk)⟩
theorem Evt.ex {g : Nat → Option α} {r : α} (h : Evt g r) : ∃ k, g k = some r := h.elim fun K hK => ⟨K, hK K (Nat.le_refl _)⟩
theorem Evt.uniq {g : Nat → Option α} {r s : α} (h : Evt g r) (h2 : Evt g s) : r = s := by
  obtain ⟨K1, h1⟩ := h
  obtain ⟨K2, h2⟩ := h2
  have := (h1 (K1 + K2) (by omega)).symm.trans (h2 (K1 + K2) (by omega))
  exact Option.some.inj this
theorem wrap64_in {a : Int} (h0 : -9223372036854775808 ≤ a) (h1 : a ≤ 9223372036854775807) : wrap64 a = a := by unfold wrap64; omega

def sumOf (cnt : α → Nat) : List α → Nat
  | [] => 0
  | x :: xs => cnt x + sumOf cnt xs
theorem getD_cons_succ' (x : α) (xs : List α) (i : Nat) (z : α) : (x :: xs).getD (i + 1) z = xs.getD i z := rfl
theorem drop_getD (l : List α) (k : Nat) (z : α) (h : k < l.length) : l.drop k = l.getD k z :: l.drop (k + 1) := by
  rw [List.drop_eq_getElem_cons h]
  simp [List.getD_eq_getElem?_getD, List.getElem?_eq_getElem h]

/-- sz..: what is left of a bound. -/
theorem sz_loop (L : Nat → List α → Int → Int → Option Int) (G : Nat → α → Int → Option Int) (z : α) (cnt : α → Nat)
    (hL : ∀ k xs left i, L (k + 1) xs left i = if i < (xs.length : Int) then (if 0 ≤ i then ((G k (xs.getD i.toNat z) left).bind fun t => (if t < 0 then (some (-1)) else (L k xs t (wrap64 (i + 1))))) else none) else some left)
    (hG : ∀ x (left : Int), 0 ≤ left → left ≤ 1048576 → ∃ r, Evt (fun k => G k x left) r ∧ (0 ≤ r → r + cnt x = left)) (xs : List α) (hx : (xs.length : Int) ≤ 9223372036854775807) :
    ∀ (left : Int), 0 ≤ left → left ≤ 1048576 → ∃ r, Evt (fun k => L k xs left 0) r ∧ (0 ≤ r → r + sumOf cnt xs = left) := by
  have key : ∀ d i : Nat, i + d = xs.length → ∀ left : Int, 0 ≤ left → left ≤ 1048576 → ∃ r, Evt (fun k => L k xs left i) r ∧ (0 ≤ r → r + sumOf cnt (xs.drop i) = left) := by
    intro d
    induction d with
    | zero =>
      intro i hi left h0 h1
      refine ⟨left, Evt.succ (h := fun _ => some left) (fun k => ?_) (.const _), fun _ => ?_⟩
      · rw [hL, if_neg (by omega)]
      · rw [List.drop_eq_nil_of_le (by omega)]
        simp [sumOf]
    | succ d ih =>
      intro i hi left h0 h1
      obtain ⟨r, hr, hrc⟩ := hG (xs.getD i z) left h0 h1
      rw [drop_getD xs i z (by omega)]
      by_cases hneg : r < 0
      · refine ⟨-1, Evt.succ (h := fun k => (G k (xs.getD i z) left).bind fun t => (if t < 0 then (some (-1)) else (L k xs t (wrap64 ((i : Int) + 1))))) (fun k => ?_) (Evt.bind hr ?_), fun h => by omega⟩
        · rw [hL, if_pos (by omega), if_pos (by omega), Int.toNat_natCast]
        · exact Evt.now fun k => if_pos hneg
      · obtain ⟨r2, hr2, hrc2⟩ := ih (i + 1) (by omega) r (by omega) (by have := hrc (by omega); omega)
        refine ⟨r2, Evt.succ (h := fun k => (G k (xs.getD i z) left).bind fun t => (if t < 0 then (some (-1)) else (L k xs t (wrap64 ((i : Int) + 1))))) (fun k => ?_) (Evt.bind hr ?_), fun h => ?_⟩
        · rw [hL, if_pos (by omega), if_pos (by omega), Int.toNat_natCast]
        · refine Evt.congr (fun k => ?_) hr2
          rw [if_neg hneg, wrap64_in (by omega) (by omega)]
          rfl
        · have := hrc2 h
          have := hrc (by omega)
          simp only [sumOf]
          omega
  intro left h0 h1
  obtain ⟨r, hr, hc⟩ := key xs.length 0 (by omega) left h0 h1
  exact ⟨r, hr, by simpa using hc⟩
/-- to..: each element turned. -/
theorem to_loop (L : Nat → List α → List β → Int → Option (List β)) (G : Nat → α → Option β) (z : α) (conv : α → β)
    (hL : ∀ k xs ys i, L (k + 1) xs ys i = if i < (xs.length : Int) then (if 0 ≤ i then ((G k (xs.getD i.toNat z)).bind fun t => (if i < (ys.length : Int) then (L k xs (ys.set i.toNat t) (wrap64 (i + 1))) else none)) else none) else some ys)
    (hG : ∀ x, Evt (fun k => G k x) (conv x)) (xs : List α) (hx : (xs.length : Int) ≤ 9223372036854775807) (ys : List β) (hy : ys.length = xs.length) : Evt (fun k => L k xs ys 0) (xs.map conv) := by
  have key : ∀ d i : Nat, i + d = xs.length → Evt (fun k => L k xs ((xs.take i).map conv ++ ys.drop i) i) (xs.map conv) := by
    intro d
    induction d with
    | zero =>
      intro i hi
      refine Evt.succ (h := fun _ => some (xs.map conv)) (fun k => ?_) (.const _)
      rw [hL, if_neg (by omega), List.take_of_length_le (by omega), List.drop_eq_nil_of_le (by omega), List.append_nil]
    | succ d ih =>
      intro i hi
      refine Evt.succ (h := fun k => (G k (xs.getD i z)).bind fun t => L k xs (((xs.take i).map conv ++ ys.drop i).set i t) (wrap64 ((i : Int) + 1))) (fun k => ?_) (Evt.bind (hG _) ?_)
      · rw [hL, if_pos (by omega), if_pos (by omega), Int.toNat_natCast]
        congr 1
        funext t
        rw [if_pos (by simp only [List.length_append, List.length_map, List.length_take, List.length_drop]; omega)]
      · refine Evt.congr (fun k => ?_) (ih (i + 1) (by omega))
        rw [wrap64_in (by omega) (by omega)]
        have e1 : ((xs.take i).map conv ++ ys.drop i).set i (conv (xs.getD i z)) = (xs.take (i + 1)).map conv ++ ys.drop (i + 1) := by
          have h1 : ((xs.take i).map conv).length = i := by rw [List.length_map, List.length_take]; omega
          rw [List.set_append_right _ _ (by omega), h1, Nat.sub_self, List.drop_eq_getElem_cons (show i < ys.length by omega), List.set_cons_zero, List.take_add_one, List.getElem?_eq_getElem (show i < xs.length by omega)]
          rw [Option.toList_some, List.map_append, List.append_assoc, List.getD_eq_getElem?_getD, List.getElem?_eq_getElem (show i < xs.length by omega)]
          rfl
        rw [e1]
        rfl
  have := key xs.length 0 (by omega)
  simpa using this
/-- eq..: what is the same is told so. -/
theorem eq_loop (L : Nat → List α → List α → Int → Option Bool) (G : Nat → α → α → Option Bool) (z : α)
    (hL : ∀ k xs ys i, L (k + 1) xs ys i = if i < (xs.length : Int) then (if 0 ≤ i then (if i < (ys.length : Int) then ((G k (xs.getD i.toNat z) (ys.getD i.toNat z)).bind fun t => (if t = true then (L k xs ys (wrap64 (i + 1))) else some false)) else none) else none) else some true)
    (hG : ∀ x, Evt (fun k => G k x x) true) (xs : List α) (hx : (xs.length : Int) ≤ 9223372036854775807) : Evt (fun k => L k xs xs 0) true := by
  have key : ∀ d i : Nat, i + d = xs.length → Evt (fun k => L k xs xs i) true := by
    intro d
    induction d with
    | zero =>
      intro i hi
      refine Evt.succ (h := fun _ => some true) (fun k => ?_) (.const _)
      rw [hL, if_neg (by omega)]
    | succ d ih =>
      intro i hi
      refine Evt.succ (h := fun k => (G k (xs.getD i z) (xs.getD i z)).bind fun t => (if t = true then (L k xs xs (wrap64 ((i : Int) + 1))) else some false)) (fun k => ?_) (Evt.bind (hG _) ?_)
      · rw [hL, if_pos (by omega), if_pos (by omega), if_pos (by omega), Int.toNat_natCast]
      · refine Evt.congr (fun k => ?_) (ih (i + 1) (by omega))
        rw [if_pos rfl, wrap64_in (by omega) (by omega)]
        rfl
  exact key xs.length 0 (by omega)
end
end Go.Proofs.Ytojpimpfpjhflaa.Fw
namespace Go.Proofs.Ytojpimpfpjhflaa.Fw
open Go Go.RowKit Go.Proofs.YtojpimpfpjhflaaW.PrintWords
set_option linter.unusedVariables false
set_option linter.unusedSimpArgs false

/-! ### the same resources in another order -/
theorem sl_perm {L L' : List Asn} (h : L.Perm L') : ∀ {w : World} {S : Fp}, sl L w S → sl L' w S := by
  induction h with
  | nil => exact fun h => h
  | cons A _ ih =>
    rintro w S ⟨S1, S2, h1, h2, h3, h4, h5⟩
    exact ⟨S1, S2, h1, ih h2, h3, h4, h5⟩
  | swap A B L => exact fun h => sl_sel (.t .h) h
  | trans _ _ ih1 ih2 => exact fun h => ih2 (ih1 h)
theorem St.perm {w0 w : World} {S0 : Fp} {L L' : List Asn} (H : St w0 S0 L w) (h : L.Perm L') : St w0 S0 L' w := by
  obtain ⟨hm, S, hS, hl⟩ := H
  exact ⟨hm, S, sl_perm h hS, hl⟩
section
variable {β : Type}
theorem fm_split {f g h : Nat → List β} : ∀ (l : List Nat), (∀ j ∈ l, f j = g j ++ h j) → (l.flatMap f).Perm (l.flatMap g ++ l.flatMap h)
  | [], _ => .refl _
  | a :: l, hj => by
    simp only [List.flatMap_cons]
    rw [hj a List.mem_cons_self]
    have ih := fm_split l (fun j hjl => hj j (List.mem_cons_of_mem _ hjl))
    refine (List.Perm.append_left _ ih).trans ?_
    rw [List.append_assoc, List.append_assoc]
    refine List.Perm.append_left _ ?_
    rw [← List.append_assoc, ← List.append_assoc]
    exact List.Perm.append_right _ List.perm_append_comm
theorem fm_filter (c : Nat → Bool) (f : Nat → List β) : ∀ l : List Nat, l.flatMap (fun j => if c j = true then f j else []) = (l.filter c).flatMap f
  | [] => rfl
  | a :: l => by
    simp only [List.flatMap_cons, List.filter_cons]
    rw [fm_filter c f l]
    cases c a <;> simp
theorem fm_nil (l : List Nat) (f : Nat → List β) (h : ∀ j ∈ l, f j = []) : l.flatMap f = [] := by
  induction l with
  | nil => rfl
  | cons a l ih => rw [List.flatMap_cons, h a List.mem_cons_self, ih (fun j hj => h j (List.mem_cons_of_mem _ hj))]; rfl
theorem fm_one (X : List β) (i : Nat) : ∀ p : Nat, i < p → (List.range p).flatMap (fun j => if j = i then X else []) = X
  | 0, h => by omega
  | p + 1, h => by
    rw [List.range_succ, List.flatMap_append]
    by_cases e : i = p
    · subst e
      rw [fm_nil (List.range i) _ (fun j hj => by rw [if_neg (by have := List.mem_range.1 hj; omega)])]
      simp
    · rw [fm_one X i p (by omega)]
      simp [show ¬ p = i by omega]
theorem fm_congr {f g : Nat → List β} (l : List Nat) (h : ∀ j ∈ l, f j = g j) : l.flatMap f = l.flatMap g := by
  induction l with
  | nil => rfl
  | cons a l ih => rw [List.flatMap_cons, List.flatMap_cons, h a List.mem_cons_self, ih (fun j hj => h j (List.mem_cons_of_mem _ hj))]
end

theorem cnt_lt {c c' : Nat → Bool} (h : ∀ j, c' j = true → c j = true) {i : Nat} (h1 : c i = true) (h2 : c' i = false) : ∀ l : List Nat, i ∈ l → (l.filter c').length < (l.filter c).length
  | [], hi => absurd hi List.not_mem_nil
  | a :: l, hi => by
    have le : ∀ l : List Nat, (l.filter c').length ≤ (l.filter c).length := by
      intro l
      induction l with
      | nil => simp
      | cons a l ih =>
        simp only [List.filter_cons]
        by_cases e : c' a = true
        · rw [if_pos e, if_pos (h a e)]; simpa using ih
        · rw [if_neg e]
          split
          · simp; omega
          · exact ih
    simp only [List.filter_cons]
    rcases List.mem_cons.1 hi with rfl | hi
    · rw [if_pos h1, if_neg (by rw [h2]; simp)]
      have := le l
      simp; omega
    · have ih := cnt_lt h h1 h2 l hi
      by_cases e : c' a = true
      · rw [if_pos e, if_pos (h a e)]; simpa using ih
      · rw [if_neg e]
        split
        · simp; omega
        · exact ih
/-! ### who waits for whom -/
theorem ble_i {a b : Nat} : Nat.ble a b = true ↔ a ≤ b := by rw [Nat.ble_eq]
theorem blt_i {a b : Nat} : Nat.blt a b = true ↔ a < b := by rw [Nat.blt_eq]
def dep (ops : Array Oper) (i j : Nat) : Bool := match ops[i]? with
  | some o => o.after.any fun e => Region.binds .any e && e.on == j
  | none => false
def dstOf (ops : Array Oper) (i : Nat) : Option Nat := (ops[i]?).bind (·.dst)
def dstv (ops : Array Oper) (i : Nat) (τ : Tm) : Value := match dstOf ops i with
  | some d => τ d
  | none => undef
def mixOK (n : Nat) (ops : Array Oper) (p : Nat) (cs : Nat → Nat) : Bool :=
  Nat.ble p ops.size &&
  (List.range p).all (fun i => (match dstOf ops i with | some d => Nat.blt d n && (List.range p).all (fun j => Nat.beq i j || dstOf ops j != some d) | none => false)) &&
  (List.range ops.size).all (fun i => (List.range ops.size).all fun j => !dep ops i j || Nat.blt j i) &&
  (List.range ops.size).all (fun i => (List.range ops.size).all fun j => !(Nat.ble p i && (Nat.blt j p || (Nat.blt p i && Nat.beq (j + 1) i))) || dep ops i j) &&
  (List.range p).all (fun j => Nat.ble p (cs j) || dep ops (cs j) j)
/-- A slot that no operation has written yet when operation i comes up. -/
def freeAt (ops : Array Oper) (p i t : Nat) : Bool := (List.range p).all fun k => Nat.beq k i || dep ops k i || dstOf ops k != some t
def noDst (ops : Array Oper) (p t : Nat) : Bool := (List.range p).all fun k => dstOf ops k != some t
/-- What an operation comes to, its call with it. -/
def opStep (P : Program) (o : Oper) (τ : Tm) (w : World) (K : Value → World → Prop) : Prop :=
  match (execOp (ev τ) o).run P w with
  | .ok (.value v) w' => K v w'
  | .ok .skip w' => K undef w'
  | .ok (.enter g args) w' => Calls P g args w' fun e w'' => ∃ v, e = .returned v ∧ K v w''
  | _ => False
theorem opStep.val {P : Program} {o : Oper} {τ : Tm} {w w' : World} {K : Value → World → Prop} {v : Value} (hr : (execOp (ev τ) o).run P w = .ok (.value v) w') (h : K v w') : opStep P o τ w K := by
  unfold opStep
  rw [hr]
  exact h
theorem opStep.call {P : Program} {o : Oper} {τ : Tm} {w w' : World} {K : Value → World → Prop} {g : FuncId} {args : Array Value} {R' : Ending → World → Prop} (hr : (execOp (ev τ) o).run P w = .ok (.enter g args) w') (hc : Calls P g args w' R')
    (h : ∀ e w'', R' e w'' → ∃ v, e = .returned v ∧ K v w'') : opStep P o τ w K := by
  unfold opStep
  rw [hr]
  exact hc.mono h
theorem beq_iff {a b : Nat} : Nat.beq a b = true ↔ a = b := ⟨Nat.eq_of_beq_eq_true, fun h => by rw [h]; exact Nat.beq_refl b⟩

section
variable {P : Program} {f : FuncId} {n : Nat} {R : Ending → World → Prop} {k : List Item} {τ : Tm} {w0 w : World} {S0 : Fp} {ops : Array Oper}
/-- What operation i is asked. -/
def Ob (P : Program) (ops : Array Oper) (p : Nat) (cs : Nat → Nat) (pre : Nat → List Asn) (Q : Nat → Value → List Asn → Prop) (L0 : List Asn) (w0 : World) (S0 : Fp) (τ : Tm) (i : Nat) : Prop :=
  ∃ o, ops[i]? = some o ∧ ∀ (τ' : Tm) (w' : World) (Lp : Nat → List Asn) (Rest : List Asn), (∀ t, freeAt ops p i t = true → τ' t = τ t) → (∀ j, dep ops i j = true → Q j (dstv ops j τ') (Lp j)) →
    St w0 S0 (L0 ++ (pre i ++ ((List.range p).filter (fun j => Nat.beq (cs j) i)).flatMap Lp) ++ Rest) w' →
    (Region.wanted o (yieldT ops τ') = true → opStep P o τ' w' fun v w'' => ∃ Lq, Q i v Lq ∧ St w0 S0 (L0 ++ Lq ++ Rest) w'') ∧
    (Region.wanted o (yieldT ops τ') = false → ∃ Lq, Q i undef Lq ∧ St w0 S0 (L0 ++ Lq ++ Rest) w')
structure MixInv (ops : Array Oper) (p : Nat) (cs : Nat → Nat) (pre : Nat → List Asn) (Q : Nat → Value → List Asn → Prop) (L0 : List Asn) (w0 : World) (S0 : Fp) (τ : Tm) (l : Array Bool) (τ' : Tm) (w' : World) (Lp : Nat → List Asn) : Prop where
  q : ∀ i, i < p → l.getD i false = true → Q i (dstv ops i τ') (Lp i)
  frame : ∀ t, (∀ i, i < p → l.getD i false = true → dstOf ops i ≠ some t) → τ' t = τ t
  dc : ∀ i, l.getD i false = true → ∀ j, dep ops i j = true → l.getD j false = true
  st : St w0 S0 (L0 ++ (List.range p).flatMap (fun j => if l.getD j false = true then (if l.getD (cs j) false = true then [] else Lp j) else pre j)) w'
theorem ready_spec {l : Array Bool} (hl : l.size = ops.size) {i : Nat} (h : i ∈ Region.ready .any ops l) : i < ops.size ∧ l.getD i false = false ∧ ∀ j, dep ops i j = true → l.getD j false = true := by
  unfold Region.ready at h
  rw [List.mem_filter] at h
  obtain ⟨h1, h2⟩ := h
  have hi : i < ops.size := List.mem_range.1 h1
  simp only [Bool.and_eq_true] at h2
  obtain ⟨h2, h3⟩ := h2
  have hil : i < l.size := by omega
  refine ⟨hi, ?_, fun j hj => ?_⟩
  · simpa [Array.getD_eq_getD_getElem?, hil] using h2
  · unfold dep at hj
    rw [Array.getElem?_eq_getElem hi] at h3 hj
    simp only [Option.map_some, Option.getD_some, Array.all_eq_true'] at h3
    simp only [Array.any_eq_true'] at hj
    obtain ⟨e, he, hb⟩ := hj
    simp only [Bool.and_eq_true, beq_iff_eq] at hb
    have := h3 e he
    rw [hb.1] at this
    simpa [hb.2] using this
theorem ready_mk {l : Array Bool} (hl : l.size = ops.size) {i : Nat} (hi : i < ops.size) (h0 : l.getD i false = false) (h : ∀ j, dep ops i j = true → l.getD j false = true) : i ∈ Region.ready .any ops l := by
  unfold Region.ready
  rw [List.mem_filter]
  refine ⟨List.mem_range.2 hi, ?_⟩
  have hil : i < l.size := by omega
  simp only [Bool.and_eq_true]
  refine ⟨?_, ?_⟩
  · simpa [Array.getD_eq_getD_getElem?, hil] using h0
  · rw [Array.getElem?_eq_getElem hi]
    simp only [Option.map_some, Option.getD_some, Array.all_eq_true']
    intro e he
    cases hb : Region.binds .any e with
    | false => rfl
    | true =>
      simp only [Bool.not_true, Bool.false_or]
      refine h e.on ?_
      unfold dep
      rw [Array.getElem?_eq_getElem hi]
      simp only [Array.any_eq_true']
      exact ⟨e, he, by simp [hb]⟩
theorem getD_set {l : Array Bool} {i : Nat} (hi : i < l.size) (j : Nat) : (l.setIfInBounds i true).getD j false = (Nat.beq j i || l.getD j false) := by
  simp only [Array.getD_eq_getD_getElem?, Array.getElem?_setIfInBounds]
  by_cases e : i = j
  · subst e
    simp [hi]
  · rw [if_neg e]
    have : Nat.beq j i = false := by
      cases h : Nat.beq j i with
      | false => rfl
      | true => exact absurd (Nat.eq_of_beq_eq_true h).symm e
    rw [this, Bool.false_or]
structure MixOK (n : Nat) (ops : Array Oper) (p : Nat) (cs : Nat → Nat) : Prop where
  le : p ≤ ops.size
  dst : ∀ i, i < p → ∃ d, dstOf ops i = some d ∧ d < n ∧ ∀ j, j < p → j ≠ i → dstOf ops j ≠ some d
  lt : ∀ i j, dep ops i j = true → j < i
  all : ∀ i j, p ≤ i → i < ops.size → j < p → dep ops i j = true
  nxt : ∀ i j, p < i → i < ops.size → j + 1 = i → dep ops i j = true
  cs : ∀ j, j < p → p ≤ cs j ∨ dep ops (cs j) j = true
theorem mixOK_spec {p : Nat} {cs : Nat → Nat} (h : mixOK n ops p cs = true) (hlt : ∀ i j, dep ops i j = true → j < ops.size) : MixOK n ops p cs := by
  unfold mixOK at h
  simp only [Bool.and_eq_true, List.all_eq_true, List.mem_range, Bool.or_eq_true, Bool.not_eq_true', Nat.ble_eq, Nat.blt_eq] at h
  obtain ⟨⟨⟨⟨h1, h2⟩, h3⟩, h4⟩, h5⟩ := h
  have hi : ∀ i j, dep ops i j = true → i < ops.size := fun i j hd => by
    unfold dep at hd
    cases he : ops[i]? with
    | none => rw [he] at hd; simp at hd
    | some o => exact (Array.getElem?_eq_some_iff.1 he).1
  refine ⟨h1, fun i hip => ?_, fun i j hd => ?_, fun i j hpi him hji => ?_, fun i j hpi him hji => ?_, fun j hj => ?_⟩
  · have := h2 i hip
    split at this
    · rename_i d hd
      refine ⟨d, hd, ?_, fun j hj hne => ?_⟩
      · simp only [Bool.and_eq_true, Nat.blt_eq] at this; exact this.1
      · simp only [Bool.and_eq_true, List.all_eq_true, List.mem_range, Bool.or_eq_true, bne_iff_ne] at this
        rcases this.2 j hj with h | h
        · exact absurd (Nat.eq_of_beq_eq_true h).symm hne
        · exact h
    · cases this
  · rcases h3 i (hi i j hd) j (hlt i j hd) with h | h
    · rw [hd] at h; cases h
    · exact h
  · rcases h4 i him j (by omega) with h | h
    · rw [ble_i.2 hpi, blt_i.2 hji] at h; cases h
    · exact h
  · rcases h4 i him j (by omega) with h | h
    · rw [ble_i.2 (show p ≤ i by omega), blt_i.2 hpi, hji, Nat.beq_refl] at h; simp at h
    · exact h
  · exact h5 j hj
theorem wp_seq_any {Qe : Exit → Act → World → Prop} {p : Nat} {cs : Nat → Nat} (hok : MixOK n ops p cs) : ∀ (d q fuel : Nat) (l : Array Bool) (a : Act) (w : World), q + d = ops.size → p ≤ q → d ≤ fuel → l.size = ops.size → (∀ j, j < ops.size → l.getD j false = Nat.blt j q) →
    wpOps P ops Qe (List.range' q d) a w → wpAny P .any ops Qe fuel l a w := by
  intro d
  induction d with
  | zero =>
    intro q fuel l a w hq hp hf hl hall h
    have hr : Region.ready .any ops l = [] := by
      cases hc : Region.ready .any ops l with
      | nil => rfl
      | cons i xs =>
        have hi : i ∈ Region.ready .any ops l := by rw [hc]; exact List.mem_cons_self
        obtain ⟨h1, h2, _⟩ := ready_spec hl hi
        rw [hall i h1] at h2
        have : Nat.blt i q = true := blt_i.2 (by omega)
        rw [this] at h2; cases h2
    have hQ : Qe .normal a w := by simpa [wpOps] using h
    cases fuel with
    | zero => exact ⟨hr, hQ⟩
    | succ fuel => exact ⟨fun _ => hQ, fun i hi => by rw [hr] at hi; cases hi⟩
  | succ d ih =>
    intro q fuel l a w hq hp hf hl hall h
    obtain ⟨fuel, rfl⟩ : ∃ m, fuel = m + 1 := ⟨fuel - 1, by omega⟩
    have hql : l.getD q false = false := by
      rw [hall q (by omega)]
      cases hb : Nat.blt q q with
      | false => rfl
      | true => have := blt_i.1 hb; omega
    refine ⟨fun h0 => ?_, fun i hi => ?_⟩
    · have : q ∈ Region.ready .any ops l := ready_mk hl (by omega) hql fun j hj => by
        have := hok.lt q j hj
        rw [hall j (by omega)]
        exact blt_i.2 this
      rw [h0] at this; cases this
    · obtain ⟨h1, h2, h3⟩ := ready_spec hl hi
      have hiq : i = q := by
        rw [hall i h1] at h2
        have hge : q ≤ i := by
          rcases Nat.lt_or_ge i q with h | h
          · rw [blt_i.2 h] at h2; cases h2
          · exact h
        rcases Nat.lt_or_ge q i with h | h
        · have := h3 (i - 1) (hok.nxt i (i - 1) (by omega) h1 (by omega))
          rw [hall _ (by omega)] at this
          have := blt_i.1 this
          omega
        · omega
      subst hiq
      rw [List.range'_succ, wpOps_cons] at h
      refine wpOp_mono (fun a' w' h' => ih (i + 1) fuel _ a' w' (by omega) (by omega) (by omega) (by simpa using hl) (fun j hj => ?_) h') h
      rw [getD_set (by omega), hall j hj]
      cases hb : Nat.beq j i with
      | true =>
        have := Nat.eq_of_beq_eq_true hb
        subst this
        exact (blt_i.2 (by omega)).symm
      | false =>
        have hne : j ≠ i := fun e => by rw [e, Nat.beq_refl] at hb; cases hb
        cases hb2 : Nat.blt j i with
        | true => have := blt_i.1 hb2; exact (blt_i.2 (by omega)).symm
        | false =>
          cases hb3 : Nat.blt j (i + 1) with
          | false => rfl
          | true =>
            have := blt_i.1 hb3
            have : Nat.blt j i = true := blt_i.2 (by omega)
            rw [this] at hb2; cases hb2
theorem mix_step {p : Nat} {cs : Nat → Nat} {pre : Nat → List Asn} {Q : Nat → Value → List Asn → Prop} {L0 : List Asn} (hok : MixOK n ops p cs)
    {Qe : Exit → Act → World → Prop} (hob : ∀ i, i < p → Ob P ops p cs pre Q L0 w0 S0 τ i)
    (hfin : ∀ (a : Act) (τ' : Tm) (w' : World) (Lp : Nat → List Asn), Agree a n τ' → (∀ i, i < p → Q i (dstv ops i τ') (Lp i)) → (∀ t, noDst ops p t = true → τ' t = τ t) → St w0 S0 (L0 ++ ((List.range p).filter (fun j => Nat.ble p (cs j))).flatMap Lp) w' →
      wpOps P ops Qe (List.range' p (ops.size - p)) a w') :
    ∀ (m fuel : Nat) (l : Array Bool) (a : Act) (τ' : Tm) (w' : World) (Lp : Nat → List Asn), l.size = ops.size → Agree a n τ' → MixInv ops p cs pre Q L0 w0 S0 τ l τ' w' Lp → (∀ i, p ≤ i → l.getD i false = false) →
      (((List.range p).filter fun i => !l.getD i false).length ≤ m) → m + (ops.size - p) ≤ fuel → wpAny P .any ops Qe fuel l a w' := by
  intro m
  induction m with
  | zero =>
    intro fuel l a τ' w' Lp hl ha hI hge hcnt hf
    have hall : ∀ i, i < p → l.getD i false = true := fun i hi => by
      have hnil := List.eq_nil_of_length_eq_zero (Nat.le_zero.1 hcnt)
      cases hb : l.getD i false with
      | true => rfl
      | false =>
        have : i ∈ (List.range p).filter fun i => !l.getD i false := List.mem_filter.2 ⟨List.mem_range.2 hi, by simp [hb]⟩
        rw [hnil] at this; cases this
    refine wp_seq_any hok (ops.size - p) p fuel l a w' (by have := hok.le; omega) (Nat.le_refl _) (by omega) hl (fun j hj => ?_) (hfin a τ' w' Lp ha (fun i hi => hI.q i hi (hall i hi)) (fun t ht => hI.frame t fun i hi _ => ?_) ?_)
    · rcases Nat.lt_or_ge j p with h | h
      · rw [hall j h]; exact (blt_i.2 h).symm
      · rw [hge j h]
        cases hb : Nat.blt j p with
        | false => rfl
        | true => have := blt_i.1 hb; omega
    · unfold noDst at ht
      have := List.all_eq_true.1 ht i (List.mem_range.2 hi)
      simpa using this
    · have hst := hI.st
      rw [fm_congr (g := fun j => if Nat.ble p (cs j) = true then Lp j else []) (List.range p) (fun j hj => ?_), fm_filter] at hst
      · exact hst
      · have hjp := List.mem_range.1 hj
        rw [if_pos (hall j hjp)]
        rcases Nat.lt_or_ge (cs j) p with h | h
        · rw [if_pos (hall _ h), if_neg (fun hb => by have := ble_i.1 hb; omega)]
        · rw [if_neg (by rw [hge _ h]; simp), if_pos (ble_i.2 h)]
  | succ m ih =>
    intro fuel l a τ' w' Lp hl ha hI hge hcnt hf
    obtain ⟨fuel, rfl⟩ : ∃ q, fuel = q + 1 := ⟨fuel - 1, by omega⟩
    have hple := hok.le
    -- the least one not listed
    by_cases hne : (List.range p).filter (fun i => !l.getD i false) = []
    · exact ih (fuel + 1) l a τ' w' Lp hl ha hI hge (by rw [hne]; exact Nat.zero_le _) (by omega)
    obtain ⟨i0, hi0, hi0l, hi0m⟩ : ∃ i, i < p ∧ l.getD i false = false ∧ ∀ j, j < i → l.getD j false = true := by
      have key : ∀ q, q ≤ p → (∀ j, j < q → l.getD j false = true) ∨ ∃ i, i < p ∧ l.getD i false = false ∧ ∀ j, j < i → l.getD j false = true := by
        intro q
        induction q with
        | zero => exact fun _ => .inl fun j hj => absurd hj (Nat.not_lt_zero _)
        | succ q ihq =>
          intro hq
          rcases ihq (by omega) with h | h
          · by_cases hb : l.getD q false = true
            · refine .inl fun j hj => ?_
              by_cases e : j = q
              · rw [e]; exact hb
              · exact h j (by omega)
            · exact .inr ⟨q, by omega, by simpa using hb, h⟩
          · exact .inr h
      rcases key p (Nat.le_refl _) with h | h
      · refine absurd ?_ hne
        exact List.filter_eq_nil_iff.2 fun j hj => by simp [h j (List.mem_range.1 hj)]
      · exact h
    refine ⟨fun h0 => ?_, fun i hi => ?_⟩
    · have : i0 ∈ Region.ready .any ops l := ready_mk hl (by omega) hi0l fun j hj => hi0m j (hok.lt i0 j hj)
      rw [h0] at this; cases this
    · obtain ⟨h1, h2, h3⟩ := ready_spec hl hi
      have hip : i < p := by
        rcases Nat.lt_or_ge i p with h | h
        · exact h
        · have := h3 i0 (hok.all i i0 h h1 hi0)
          rw [hi0l] at this; cases this
      obtain ⟨o, ho, hO⟩ := hob i hip
      obtain ⟨d, hd, hdn, hdu⟩ := hok.dst i hip
      have hod : o.dst = some d := by simpa [dstOf, ho] using hd
      have hcsi : ∀ j, j < p → cs j = i → l.getD j false = true ∧ j ≠ i := fun j hj hc => by
        rcases hok.cs j hj with h | h
        · omega
        · rw [hc] at h
          exact ⟨h3 j h, fun e => by have := hok.lt i j h; omega⟩
      have hcsu : ∀ j, j < p → l.getD j false = false → l.getD (cs j) false = false := fun j hj hlj => by
        rcases hok.cs j hj with h | h
        · exact hge _ h
        · cases hb : l.getD (cs j) false with
          | false => rfl
          | true => have := hI.dc _ hb j h; rw [hlj] at this; cases this
      generalize hRest : (List.range p).flatMap (fun j => if j = i ∨ cs j = i then [] else (if l.getD j false = true then (if l.getD (cs j) false = true then [] else Lp j) else pre j)) = Rest
      have hperm : ((List.range p).flatMap (fun j => if l.getD j false = true then (if l.getD (cs j) false = true then [] else Lp j) else pre j)).Perm ((pre i ++ ((List.range p).filter (fun j => Nat.beq (cs j) i)).flatMap Lp) ++ Rest) := by
        refine (fm_split (g := fun j => if j = i then pre i else if cs j = i then Lp j else []) (h := fun j => if j = i ∨ cs j = i then [] else (if l.getD j false = true then (if l.getD (cs j) false = true then [] else Lp j) else pre j)) (List.range p) (fun j hj => ?_)).trans ?_
        · have hjp := List.mem_range.1 hj
          by_cases e : j = i
          · subst e
            rw [if_neg (by rw [h2]; simp), if_pos rfl, if_pos (.inl rfl), List.append_nil]
          · by_cases e2 : cs j = i
            · have := (hcsi j hjp e2).1
              rw [if_pos this, if_neg (by rw [e2, h2]; simp), if_neg e, if_pos e2, if_pos (.inr e2), List.append_nil]
            · rw [if_neg e, if_neg e2, if_neg (show ¬ (j = i ∨ cs j = i) from fun h => h.elim e e2), List.nil_append]
        · rw [hRest]
          refine List.Perm.append_right _ ?_
          refine (fm_split (g := fun j => if j = i then pre i else []) (h := fun j => if Nat.beq (cs j) i = true then Lp j else []) (List.range p) (fun j hj => ?_)).trans ?_
          · have hjp := List.mem_range.1 hj
            by_cases e : j = i
            · subst e
              have : ¬ Nat.beq (cs j) j = true := fun h => (hcsi j hjp (Nat.eq_of_beq_eq_true h)).2 rfl
              rw [if_pos rfl, if_pos rfl, if_neg this, List.append_nil]
            · rw [if_neg e, if_neg e, List.nil_append]
              by_cases e2 : cs j = i
              · rw [if_pos e2, if_pos (beq_iff.2 e2)]
              · rw [if_neg e2, if_neg (fun h => e2 (beq_iff.1 h))]
          · rw [fm_one _ _ _ hip, fm_filter]
      have hst' : St w0 S0 (L0 ++ (pre i ++ ((List.range p).filter (fun j => Nat.beq (cs j) i)).flatMap Lp) ++ Rest) w' := by
        rw [List.append_assoc]
        exact hI.st.perm (List.Perm.append_left _ hperm)
      have hfree : ∀ t, freeAt ops p i t = true → τ' t = τ t := fun t ht => hI.frame t fun j hj hlj hdj => by
        unfold freeAt at ht
        have := List.all_eq_true.1 ht j (List.mem_range.2 hj)
        simp only [Bool.or_eq_true, bne_iff_ne] at this
        rcases this with (h | h) | h
        · rw [beq_iff.1 h, h2] at hlj; cases hlj
        · have := hI.dc j hlj i h; rw [h2] at this; cases this
        · exact h hdj
      have hdeps : ∀ j, dep ops i j = true → Q j (dstv ops j τ') (Lp j) := fun j hj => hI.q j (by have := hok.lt i j hj; omega) (h3 j hj)
      obtain ⟨hw, hnw⟩ := hO τ' w' Lp Rest hfree hdeps hst'
      -- behind the operation
      have next : ∀ (v : Value) (w'' : World) (Lq : List Asn), Q i v Lq → St w0 S0 (L0 ++ Lq ++ Rest) w'' → wpAny P .any ops Qe fuel (l.setIfInBounds i true) (a.put o.dst v) w'' := by
        intro v w'' Lq hq hst
        have hset := fun j => getD_set (l := l) (i := i) (by omega) j
        have hne : ∀ j, j ≠ i → (l.setIfInBounds i true).getD j false = l.getD j false := fun j e => by
          rw [hset j]
          cases hb : Nat.beq j i with
          | false => rfl
          | true => exact absurd (beq_iff.1 hb) e
        have hself : (l.setIfInBounds i true).getD i false = true := by rw [hset i, Nat.beq_refl]; rfl
        have hupd : ∀ t, t ≠ d → updO τ' o.dst v t = τ' t := fun t e => by
          rw [hod]
          show (bif Nat.beq t d then v else τ' t) = τ' t
          cases hb : Nat.beq t d with
          | false => rfl
          | true => exact absurd (beq_iff.1 hb) e
        refine ih fuel (l.setIfInBounds i true) (a.put o.dst v) (updO τ' o.dst v) w'' (fun j => if j = i then Lq else Lp j) (by simpa using hl) (ha.put_ _ _ (by rw [hod]; simpa [inB, Nat.blt_eq] using hdn)) ⟨fun j hj hlj => ?_, fun t ht => ?_, fun j hlj j2 hd2 => ?_, ?_⟩ (fun j hj => by rw [hne j (by omega)]; exact hge j hj) ?_ (by omega)
        · by_cases e : j = i
          · subst e
            have : dstv ops j (updO τ' o.dst v) = v := by
              unfold dstv
              rw [hd, hod]
              show (bif Nat.beq d d then v else τ' d) = v
              rw [Nat.beq_refl]; rfl
            rw [this, if_pos rfl]
            exact hq
          · rw [hne j e] at hlj
            have : dstv ops j (updO τ' o.dst v) = dstv ops j τ' := by
              unfold dstv
              cases hdj : dstOf ops j with
              | none => rfl
              | some d' => exact hupd d' (fun e2 => hdu j hj e (by rw [hdj, e2]))
            rw [this, if_neg e]
            exact hI.q j hj hlj
        · have htd : t ≠ d := fun e => ht i hip hself (by rw [hd, e])
          rw [hupd t htd]
          exact hI.frame t fun j hj hlj => by
            by_cases e : j = i
            · subst e; rw [h2] at hlj; cases hlj
            · exact ht j hj (by rw [hne j e]; exact hlj)
        · by_cases e : j = i
          · subst e
            have := hok.lt j j2 hd2
            rw [hne j2 (by omega)]
            exact h3 j2 hd2
          · rw [hne j e] at hlj
            have := hI.dc j hlj j2 hd2
            by_cases e2 : j2 = i
            · rw [e2]; exact hself
            · rw [hne j2 e2]; exact this
        · refine hst.perm ?_
          rw [List.append_assoc]
          refine List.Perm.append_left _ ?_
          refine List.Perm.symm ((fm_split (g := fun j => if j = i then Lq else []) (h := fun j => if j = i ∨ cs j = i then [] else (if l.getD j false = true then (if l.getD (cs j) false = true then [] else Lp j) else pre j)) (List.range p) (fun j hj => ?_)).trans ?_)
          · have hjp := List.mem_range.1 hj
            by_cases e : j = i
            · subst e
              have hcne : cs j ≠ j := fun h => (hcsi j hjp h).2 rfl
              rw [if_pos hself, hne _ hcne, if_neg (by rw [hcsu j hjp h2]; simp), if_pos rfl, if_pos rfl, if_pos (.inl rfl), List.append_nil]
            · rw [hne j e, if_neg e, if_neg e, List.nil_append]
              by_cases e2 : cs j = i
              · rw [if_pos (hcsi j hjp e2).1, e2, if_pos hself, if_pos (.inr rfl)]
              · rw [hne _ e2, if_neg (show ¬ (j = i ∨ cs j = i) from fun h => h.elim e e2)]
          · rw [fm_one _ _ _ hip, hRest]
        · have := cnt_lt (c := fun j => !l.getD j false) (c' := fun j => !(l.setIfInBounds i true).getD j false) (fun j hj => ?_) (i := i) (by simp [h2]) (by simp [hself]) (List.range p) (List.mem_range.2 hip)
          · omega
          · by_cases e : j = i
            · subst e; simp [h2]
            · rw [hne j e] at hj; exact hj
      unfold wpOp
      simp only [ho]
      rw [ha.wanted_]
      split
      · rename_i hwt
        refine .inl ?_
        have hs := hw hwt
        unfold opStep at hs
        unfold Oper.wp
        rw [ha.ev_]
        generalize (execOp (ev τ') o).run P w' = r at hs
        cases r with
        | ok nx w1 =>
          cases nx <;> first | (simp only [] at hs; done) | skip
          case value v =>
            obtain ⟨Lq, hq, hst⟩ := hs
            exact next v w1 Lq hq hst
          case skip =>
            obtain ⟨Lq, hq, hst⟩ := hs
            exact next undef w1 Lq hq hst
          case enter g args =>
            refine Calls.mono hs fun e w2 h => ?_
            obtain ⟨v, rfl, Lq, hq, hst⟩ := h
            exact next v w2 Lq hq hst
          all_goals exact hs.elim
        | halt x w1 => exact hs.elim
      · rename_i hwt
        obtain ⟨Lq, hq, hst⟩ := hnw (by simpa using hwt)
        exact next undef w' Lq hq hst
/-- A region that draws its order and makes memory. p: the operations from p on come last, in their order. cs j: who takes what operation j made (p: nobody). pre i: what operation i takes of the state. -/
theorem Run.mix {id : Nat} (p : Nat) (cs : Nat → Nat) (pre : Nat → List Asn) (Q : Nat → Value → List Asn → Prop) (L0 : List Asn) {L : List Asn} (H : St w0 S0 L w) (hm : P.follows .mixedOrders = true) (hL : L = L0 ++ (List.range p).flatMap pre) (hok : mixOK n ops p cs = true) (hlt : (List.range ops.size).all (fun i => match ops[i]? with | some o => o.after.all fun e => Nat.blt e.on ops.size | none => true) = true)
    (hob : ∀ i, i < p → Ob P ops p cs pre Q L0 w0 S0 τ i)
    (hfin : ∀ (τ' : Tm) (w' : World) (Lp : Nat → List Asn), (∀ i, i < p → Q i (dstv ops i τ') (Lp i)) → (∀ t, noDst ops p t = true → τ' t = τ t) → St w0 S0 (L0 ++ ((List.range p).filter (fun j => Nat.ble p (cs j))).flatMap Lp) w' →
      WO P f n R ops k (List.range' p (ops.size - p)) τ' w') : Run P f n R (.code (.region id ops true) :: k) τ w := by
  have hlt' : ∀ i j, dep ops i j = true → j < ops.size := fun i j hd => by
    unfold dep at hd
    cases he : ops[i]? with
    | none => rw [he] at hd; simp at hd
    | some o =>
      rw [he] at hd
      have h1 := List.all_eq_true.1 hlt i (List.mem_range.2 (Array.getElem?_eq_some_iff.1 he).1)
      rw [he] at h1
      simp only [Array.any_eq_true', Array.all_eq_true'] at hd h1
      obtain ⟨e, hm1, hb⟩ := hd
      simp only [Bool.and_eq_true, beq_iff_eq] at hb
      rw [← hb.2]
      exact blt_i.1 (h1 e hm1)
  have hok' := mixOK_spec hok hlt'
  refine Run.of_wp fun a ha => ?_
  refine wp_region_any hm ?_
  have hz : ∀ i, (Array.replicate ops.size false).getD i false = false := fun i => by
    rw [Array.getD_eq_getD_getElem?, Array.getElem?_replicate]
    split <;> rfl
  refine mix_step (τ := τ) (pre := pre) (Q := Q) (L0 := L0) (w0 := w0) (S0 := S0) hok' hob (fun a τ' w' Lp ha h1 h2 h3 => hfin τ' w' Lp h1 h2 h3 a ha) p ops.size _ a τ _ (fun _ => []) (by simp) ha ⟨fun i _ h => absurd h (by rw [hz]; simp), fun t _ => rfl, fun i h => absurd h (by rw [hz]; simp), ?_⟩ (fun i _ => hz i) ?_ (by have := hok'.le; omega)
  · have := H.step (w' := { w with drawn := w.drawn + 1 }) ⟨rfl, rfl, rfl, Nat.le_refl _, fun _ _ => rfl⟩
    rw [hL] at this
    rw [fm_congr (g := pre) (List.range p) (fun j _ => by rw [hz]; rfl)]
    exact this
  · exact Nat.le_trans (List.length_filter_le _ _) (by rw [List.length_range]; exact Nat.le_refl _)
/-- What was made is told behind what stays. -/
theorem St.into {X L0 Rest : List Asn} (H : St w0 S0 (X ++ (L0 ++ Rest)) w) : St w0 S0 (L0 ++ X ++ Rest) w := by
  refine H.perm ?_
  rw [← List.append_assoc]
  exact List.Perm.append_right _ List.perm_append_comm
end
end Go.Proofs.Ytojpimpfpjhflaa.Fw
namespace Go.Proofs.Ytojpimpfpjhflaa.Fw
open Go Go.RowKit Go.Proofs.YtojpimpfpjhflaaW.PrintWords
set_option linter.unusedVariables false
set_option linter.unusedSimpArgs false
section
variable {α β : Type} {d : Kd α} {w : World} {A : Option Addr} {n : Nat} {l : List α}
/-- Where an element of a row that is read lies. -/
theorem row_at (h : d.C w A n l) (z : α) (i : Nat) (hi : i < n) (hsz : 0 < d.sz) : ∃ b off cs, A = some ⟨b, off, none⟩ ∧ b < w.heap.size ∧ cs.length = d.sz ∧ d.K w (l.getD i z) cs ∧ ∀ j u, cs[j]? = some u → w.cell? ((⟨b, off + i * d.sz, none⟩ : Addr).add j) = some u := by
  have first : ∀ k, k < n → ∃ (ad : Addr) (cs : List Value), A = some ad ∧ cs.length = d.sz ∧ d.K w (l.getD k z) cs ∧ ∀ j u, cs[j]? = some u → w.cell? (ad.add (k * d.sz + j)) = some u := fun k hk => by
    obtain ⟨ad, cs, e, hl, hK, hc⟩ := Kd.C_get h z (k : Int) (by omega) (by omega)
    rw [Int.toNat_natCast] at hK hc
    exact ⟨ad, cs, e, hl, hK, hc⟩
  obtain ⟨ad, cs0, e0, hl0, _, hc0⟩ := first 0 (by omega)
  obtain ⟨b, off, sp⟩ := ad
  have hsp : sp = none := by
    obtain ⟨u, hu⟩ : ∃ u, cs0[0]? = some u := ⟨_, List.getElem?_eq_getElem (by omega)⟩
    have h2 := hc0 0 u hu
    cases sp with
    | none => rfl
    | some q =>
      simp [Addr.add, World.cell?] at h2
      split at h2 <;> simp at h2
  subst hsp
  obtain ⟨ad, cs, e, hl, hK, hc⟩ := first i hi
  rw [e0] at e
  cases e
  obtain ⟨u, hu⟩ : ∃ u, cs[0]? = some u := ⟨_, List.getElem?_eq_getElem (by omega)⟩
  have hcell : ∀ j u, cs[j]? = some u → w.cell? ((⟨b, off + i * d.sz, none⟩ : Addr).add j) = some u := fun j u hj => by
    have := hc j u hj
    rw [add_gg] at this ⊢
    rwa [← Nat.add_assoc] at this
  have hb := World.block_lt_of_cell? w _ (hcell 0 u hu)
  rw [add_gg] at hb
  exact ⟨b, off, cs, e0, hb, hl, hK, hcell⟩
theorem sumOf_le (cnt : α → Nat) : ∀ (l : List α) (z : α) (i : Nat), i < l.length → cnt (l.getD i z) ≤ sumOf cnt l
  | x :: xs, z, 0, _ => by simp [sumOf]
  | x :: xs, z, i + 1, h => by
    have := sumOf_le cnt xs z i (by simpa using h)
    simp only [sumOf, getD_cons_succ']
    omega
theorem map_of_at {conv : α → β} {l : List α} {xs : List β} (z : α) (hx : xs.length = l.length) (h : ∀ j, j < l.length → xs[j]? = some (conv (l.getD j z))) : xs = l.map conv := by
  refine List.ext_getElem? fun j => ?_
  by_cases hj : j < l.length
  · rw [h j hj, List.getElem?_map, List.getElem?_eq_getElem hj]
    simp [List.getD_eq_getElem?_getD, List.getElem?_eq_getElem hj]
  · rw [List.getElem?_eq_none (by omega), List.getElem?_eq_none (by rw [List.length_map]; omega)]
theorem set_at {xs : List β} {i : Nat} {y : β} (hi : i < xs.length) {f : Nat → β} (hy : y = f i) (h : ∀ j, j < i → xs[j]? = some (f j)) : ∀ j, j < i + 1 → (xs.set i y)[j]? = some (f j) := fun j hj => by
  rw [List.getElem?_set]
  by_cases e : i = j
  · rw [if_pos e, if_pos hi, ← e, hy]
  · rw [if_neg e]; exact h j (by omega)
theorem getElem?_getD {l : List α} {i : Nat} (z : α) (hi : i < l.length) : l[i]? = some (l.getD i z) := by
  rw [List.getD_eq_getElem?_getD, List.getElem?_eq_getElem hi]; rfl
end
theorem args1 {ρ : Operand → Value} {x : Operand} {v : Value} (h : ρ x = v) : (([x] : List Operand).map ρ).toArray = #[v] := by rw [List.map_cons, List.map_nil, h]
theorem args2 {ρ : Operand → Value} {x y : Operand} {v u : Value} (h : ρ x = v) (h2 : ρ y = u) : (([x, y] : List Operand).map ρ).toArray = #[v, u] := by rw [List.map_cons, List.map_cons, List.map_nil, h, h2]
theorem args3 {ρ : Operand → Value} {x y z : Operand} {v u t : Value} (h : ρ x = v) (h2 : ρ y = u) (h3 : ρ z = t) : (([x, y, z] : List Operand).map ρ).toArray = #[v, u, t] := by rw [List.map_cons, List.map_cons, List.map_cons, List.map_nil, h, h2, h3]
end Go.Proofs.Ytojpimpfpjhflaa.Fw
namespace Go.Proofs.Ytojpimpfpjhflaa.Fw
open Go Go.RowKit
set_option linter.unusedVariables false
set_option linter.unusedSimpArgs false
section
variable {P : Program} {ρ : Operand → Value} {o : Oper} {w : World} {t t' : TypeId} {x y : Operand}
theorem equal_bool (ht : P.underlying t = some .bool) (a b : Bool) : (Op.equal t (.bool a) (.bool b)).run P w = .ok (a == b) w := run_equalIn_bool' w 9999 t a b ht
theorem r_eqlB {a b q : Bool} (ho : o.op = .binOp .eql t x y t') (hx : ρ x = .bool a) (hy : ρ y = .bool b) (ht : P.underlying t = some .bool) (hq : (a == b) = q) : (execOp ρ o).run P w = .ok (.value (.bool q)) w := by
  subst hq; simp [execOp, ho, hx, hy, eqGuard_bool, binOp, pure, equal_bool ht, Sem.run_bind]
theorem r_neqB {a b q : Bool} (ho : o.op = .binOp .neq t x y t') (hx : ρ x = .bool a) (hy : ρ y = .bool b) (ht : P.underlying t = some .bool) (hq : (!(a == b)) = q) : (execOp ρ o).run P w = .ok (.value (.bool q)) w := by
  subst hq; simp [execOp, ho, hx, hy, eqGuard_bool, binOp, pure, equal_bool ht, Sem.run_bind]
end
end Go.Proofs.Ytojpimpfpjhflaa.Fw
namespace Go.Proofs.Ytojpimpfpjhflaa.Fw
open Go Go.RowKit Go.Proofs.YtojpimpfpjhflaaW.PrintWords
set_option linter.unusedVariables false
set_option linter.unusedSimpArgs false
section
variable {P : Program} {f : FuncId} {n : Nat} {R : Ending → World → Prop} {k : List Item} {τ : Tm} {w0 w : World} {S0 : Fp} {L F : List Asn} {K : Asn → List Asn} {ops : Array Oper} {i : Nat} {rest : List Nat} {o : Oper} {ρ : Operand → Value}
variable {α β : Type} {dk : Kd α} {ow : Ow dk}
theorem r_lit {t m : Nat} {parts : Array (Nat × Operand)} {pv : Array (Nat × Value)} {v : Value} {w' : World} (ho : o.op = .buildSlice t m parts) (hb : (Instr.buildSlice t m pv).run P w = .ok v w') (hp : (parts.toList.map fun p => (p.1, ρ p.2)).toArray = pv) : (execOp ρ o).run P w = .ok (.value v) w' := by
  have e : (parts.map fun (i, x) => (i, ρ x)) = pv := by rw [← hp, map_arr]
  simp only [execOp, ho, Sem.run_bind, Sem.run_pure, Sem.run_pure', Result.andThen_ok]
  rw [e, hb]
  rfl
theorem WO.slit (d : Nat) {t m e : Nat} {parts : Array (Nat × Operand)} {pv : Array (Nat × Value)} (xs : List α) (vss : List (List Value)) (ho : ops[i]? = some o) (hk : okOp n ops τ o d true = true) (hop : o.op = .buildSlice t m parts) (hp : (parts.toList.map fun p => (p.1, ev τ p.2)).toArray = pv)
    (hb : ∀ w, (Instr.buildSlice t m pv).run P w = .ok (.slice (some ⟨w.heap.size, 0, none⟩) xs.length xs.length) (w.alloc (.cells vss.flatten.toArray e))) (hl : vss.length = xs.length) (hown : ∀ (j : Nat) (x : α) (vs : List Value), xs[j]? = some x → vss[j]? = some vs → ow.own w Em x vs) (hm : xs.length ≤ 4096)
    (H : St w0 S0 L w) (h : ∀ g w', St w0 S0 (Rw ow e (.slice (some ⟨g, 0, none⟩) xs.length xs.length) xs :: L) w' → WO P f n R ops k rest (upd τ d (.slice (some ⟨g, 0, none⟩) xs.length xs.length)) w') : WO P f n R ops k (i :: rest) τ w :=
  WO.v d ho hk (r_lit hop (hb w) hp) (h _ _ (H.row_new hl hown (by simp only [maxLen]; omega)))
theorem own_nil_ {w : World} : ∀ (j : Nat) (x : α) (vs : List Value), ([] : List α)[j]? = some x → ([] : List (List Value))[j]? = some vs → ow.own w Em x vs := fun j x vs h => by simp at h
theorem own_one_ {w : World} {x1 : α} {vs1 : List Value} (h : ow.own w Em x1 vs1) : ∀ (j : Nat) (x : α) (vs : List Value), [x1][j]? = some x → [vs1][j]? = some vs → ow.own w Em x vs := fun j x vs hx hv => by
  cases j with
  | zero => simp at hx hv; subst hx hv; exact h
  | succ j => simp at hx
theorem r_min {t : TypeId} {x y : Operand} {kk : IntKind} {a b c : Int} (ho : o.op = .call { callee := .builtin .min, args := #[x, y], argTypes := #[t, t] }) (hx : ρ x = .int kk a) (hy : ρ y = .int kk b) (hc : (if b < a then b else a) = c) : (execOp ρ o).run P w = .ok (.value (.int kk c)) w := by
  subst hc
  simp [execOp, ho, resolve, invoke, builtin, Builtin.min_, Builtin.min2, hx, hy, pure, bind, Sem.bind, Sem.run, List.foldlM]
theorem r_max {t : TypeId} {x y : Operand} {kk : IntKind} {a b c : Int} (ho : o.op = .call { callee := .builtin .max, args := #[x, y], argTypes := #[t, t] }) (hx : ρ x = .int kk a) (hy : ρ y = .int kk b) (hc : (if a < b then b else a) = c) : (execOp ρ o).run P w = .ok (.value (.int kk c)) w := by
  subst hc
  simp [execOp, ho, resolve, invoke, builtin, Builtin.max_, Builtin.max2, hx, hy, pure, bind, Sem.bind, Sem.run, List.foldlM]
end
end Go.Proofs.Ytojpimpfpjhflaa.Fw
namespace Go.Proofs.Ytojpimpfpjhflaa.Fw
open Go Go.RowKit Go.Proofs.YtojpimpfpjhflaaW.PrintWords Go.Deep
set_option linter.unusedVariables false
set_option linter.unusedSimpArgs false
section
variable {P : Program} {α β : Type}
/-- What lies there is of kind d. -/
def Opens (P : Program) (t : TypeId) (d : Kd α) : Prop := ∀ {H : Type} {enc : TypeId × Value → H} {w : World} {fuel : Nat} {cs : List Value} {x : DataW H × List MemPlace}, DataW.trod enc P w 0 (fun _ => true) true fuel t cs = some x → ∃ v : α, d.K w v cs
theorem opens_int {t : TypeId} {k : IntKind} (ht : P.underlying t = some (.int k)) : Opens P t (Kd.int k) := fun h => by
  obtain ⟨n, rfl, _, _⟩ := DataW.trod_int ht h
  exact ⟨n, rfl⟩
theorem opens_bool {t : TypeId} (ht : P.underlying t = some .bool) : Opens P t Kd.bool := fun h => by
  obtain ⟨b, rfl, _⟩ := DataW.trod_bool ht h
  exact ⟨b, rfl⟩
theorem opens_string {t : TypeId} (ht : P.underlying t = some .string) : Opens P t Kd.string := fun h => by
  obtain ⟨s, rfl, _⟩ := DataW.trod_string ht h
  exact ⟨s, rfl⟩
theorem opens_slice {t e e' : TypeId} {d : Kd α} (ht : P.underlying t = some (.slice e)) (he : Opens P e d) (hs : P.cellsOf e = d.sz) : Opens P t (Kd.slice e' d) := fun {H enc w fuel cs x} h => by
  rcases open_slice ht h with ⟨rfl, _⟩ | ⟨a, len, cap, m, n, D, Pl, rfl, _, hl, hm, hmm, _, hel⟩
  · exact ⟨[], none, 0, rfl, Nat.le_refl _, Kd.C_nil d w⟩
  · have hle : len ≤ m := by rw [hmm]; split <;> omega
    have key : ∀ q, q ≤ len → ∃ l : List α, l.length = q ∧ ∀ j p, l[j]? = some p → ∃ c, c.length = d.sz ∧ d.K w p c ∧ ∀ i u, c[i]? = some u → w.cell? (a.add (j * d.sz + i)) = some u := by
      intro q
      induction q with
      | zero => exact fun _ => ⟨[], rfl, fun j p h => by simp at h⟩
      | succ q ih =>
        intro hq
        obtain ⟨l, hl1, hl2⟩ := ih (by omega)
        obtain ⟨cs', hc1, hc2⟩ := hel q (by omega)
        obtain ⟨v, hv⟩ := he hc2
        obtain ⟨_, hlen, hcell⟩ := World.cells?_some hc1
        refine ⟨l ++ [v], by simp [hl1], fun j p hj => ?_⟩
        rcases Nat.lt_or_ge j l.length with h1 | h1
        · rw [List.getElem?_append_left h1] at hj
          exact hl2 j p hj
        · rw [List.getElem?_append_right h1] at hj
          have hj0 : j = q := by
            have := (List.getElem?_eq_some_iff.1 hj).1
            simp at this
            omega
          subst hj0
          rw [hl1, Nat.sub_self] at hj
          simp at hj
          subst hj
          refine ⟨cs', by rw [hlen, hs], hv, fun i u hu => ?_⟩
          have hi : i < cs'.length := (List.getElem?_eq_some_iff.1 hu).1
          have := hcell i (by omega)
          rw [hu] at this
          rw [← this, hs, Go.Deep.add_add]
    obtain ⟨l, hl1, hl2⟩ := key len (Nat.le_refl _)
    refine ⟨l, some a, cap, by rw [hl1], by omega, rfl, by simp only [maxLen] at hm; omega, fun _ => ⟨a, rfl, hl2⟩⟩
/-- The fields of a struct, from some place on. -/
def OpensFs (P : Program) (fs : List Field) (off : Nat) (d : Kd α) : Prop := ∀ {H : Type} {enc : TypeId × Value → H} {w : World} {n : Nat} {cs : List Value},
  (∀ f ∈ fs, ∃ y, DataW.trod enc P w 0 (fun _ => true) true n f.type ((cs.drop f.offset).take (P.cellsOf f.type)) = some y) → cs.length = off + d.sz → ∃ v : α, d.K w v (cs.drop off)
theorem opensFs_one {f : Field} {off : Nat} {d : Kd α} (ho : f.offset = off) (hs : P.cellsOf f.type = d.sz) (hd : Opens P f.type d) : OpensFs P [f] off d := fun {H enc w n cs} h hl => by
  obtain ⟨y, hy⟩ := h f List.mem_cons_self
  obtain ⟨v, hv⟩ := hd hy
  rw [ho, hs, List.take_of_length_le (by rw [List.length_drop]; omega)] at hv
  exact ⟨v, hv⟩
theorem opensFs_cons {f : Field} {fs : List Field} {off : Nat} {a : Kd α} {b : Kd β} (ho : f.offset = off) (hs : P.cellsOf f.type = a.sz) (ha : Opens P f.type a) (hb : OpensFs P fs (off + a.sz) b) : OpensFs P (f :: fs) off (Kd.pair a b) := fun {H enc w n cs} h hl => by
  obtain ⟨y, hy⟩ := h f List.mem_cons_self
  obtain ⟨v, hv⟩ := ha hy
  rw [ho, hs] at hv
  have hl' : cs.length = off + a.sz + b.sz := by
    have : (Kd.pair a b).sz = a.sz + b.sz := rfl
    omega
  obtain ⟨u, hu⟩ := hb (fun g hg => h g (List.mem_cons_of_mem _ hg)) hl'
  refine ⟨(v, u), (cs.drop off).take a.sz, cs.drop (off + a.sz), ?_, hv, hu⟩
  rw [← List.drop_drop, List.take_append_drop]
theorem opens_struct {t : TypeId} {fs : List Field} {d : Kd α} (ht : P.underlying t = some (.struct fs.toArray)) (hs : P.cellsOf t = d.sz) (hf : OpensFs P fs 0 d) : Opens P t d := fun {H enc w fuel cs x} h => by
  obtain ⟨xs, n, _, _, hl, hlen, hfs⟩ := DataW.trod_struct ht h
  obtain ⟨v, hv⟩ := hf (fun f hf' => by
    obtain ⟨i, hi, he⟩ := List.getElem_of_mem hf'
    have := hfs i f (by simp [hi, he])
    obtain ⟨y, hy⟩ : ∃ y, xs[i]? = some y := ⟨_, List.getElem?_eq_getElem (by simp at hlen; omega)⟩
    exact ⟨y, this.trans hy⟩) (by omega : cs.length = 0 + d.sz)
  exact ⟨v, by simpa using hv⟩
theorem opens_iso {t : TypeId} {d : Kd α} {f : β → α} (g : α → β) (hg : ∀ v, f (g v) = v) (h : Opens P t d) : Opens P t (Kd.iso d f) := fun {H enc w fuel cs x} hx => by
  obtain ⟨v, hv⟩ := h hx
  exact ⟨g v, by show d.K w (f (g v)) cs; rw [hg]; exact hv⟩
end
end Go.Proofs.Ytojpimpfpjhflaa.Fw
namespace Go.Proofs.Ytojpimpfpjhflaa.Fw
open Go Go.RowKit Go.Proofs.YtojpimpfpjhflaaW.PrintWords
set_option linter.unusedVariables false
set_option linter.unusedSimpArgs false
section
variable {α : Type}
/-- A list, marked from k on: mk x k: x marked from k on, with cnt x marks. -/
def mkL (mk : α → Int → α) (cnt : α → Nat) : List α → Int → List α
  | [], _ => []
  | x :: xs, k => mk x k :: mkL mk cnt xs (k + cnt x)
variable (mk : α → Int → α) (cnt : α → Nat)
theorem mkL_length : ∀ (xs : List α) (k : Int), (mkL mk cnt xs k).length = xs.length
  | [], _ => rfl
  | x :: xs, k => by simp [mkL, mkL_length xs]
theorem sumOf_app : ∀ (a b : List α), sumOf cnt (a ++ b) = sumOf cnt a + sumOf cnt b
  | [], b => by simp [sumOf]
  | x :: a, b => by simp only [List.cons_append, sumOf, sumOf_app a b]; omega
theorem sum_take (xs : List α) (z : α) (i : Nat) (h : i < xs.length) : sumOf cnt (xs.take (i + 1)) = sumOf cnt (xs.take i) + cnt (xs.getD i z) := by
  rw [List.take_add_one, List.getElem?_eq_getElem h, sumOf_app, List.getD_eq_getElem?_getD, List.getElem?_eq_getElem h]
  simp [sumOf]
theorem sum_take_le (xs : List α) (i : Nat) : sumOf cnt (xs.take i) ≤ sumOf cnt xs := by
  conv => rhs; rw [← List.take_append_drop i xs, sumOf_app]
  omega
theorem mkL_app : ∀ (a b : List α) (k : Int), mkL mk cnt (a ++ b) k = mkL mk cnt a k ++ mkL mk cnt b (k + sumOf cnt a)
  | [], b, k => by simp [mkL, sumOf]
  | x :: a, b, k => by
    simp only [List.cons_append, mkL, sumOf, mkL_app a b]
    congr 3
    omega
theorem mkL_getD (z : α) (xs : List α) (k : Int) (i : Nat) (h : i < xs.length) : (mkL mk cnt xs k).getD i z = mk (xs.getD i z) (k + sumOf cnt (xs.take i)) := by
  have e : xs = xs.take i ++ xs.getD i z :: xs.drop (i + 1) := by rw [← drop_getD xs i z h, List.take_append_drop]
  conv => lhs; rw [e, mkL_app]
  have hl : (mkL mk cnt (xs.take i) k).length = i := by rw [mkL_length, List.length_take]; omega
  rw [List.getD_eq_getElem?_getD, List.getElem?_append_right (by omega), hl, Nat.sub_self]
  rfl
/-- One element more is marked. -/
theorem mkL_step (z : α) (xs : List α) (k : Int) (i : Nat) (h : i < xs.length) : (mkL mk cnt (xs.take i) k ++ xs.drop i).set i (mk (xs.getD i z) (k + sumOf cnt (xs.take i))) = mkL mk cnt (xs.take (i + 1)) k ++ xs.drop (i + 1) := by
  have hl : (mkL mk cnt (xs.take i) k).length = i := by rw [mkL_length, List.length_take]; omega
  rw [List.set_append_right _ _ (by omega), hl, Nat.sub_self, drop_getD xs i z h, List.set_cons_zero, List.take_add_one, List.getElem?_eq_getElem h, Option.toList_some, mkL_app, List.append_assoc]
  congr 1
  rw [List.getD_eq_getElem?_getD, List.getElem?_eq_getElem h]
  rfl
theorem mkL_at (z : α) (xs : List α) (k : Int) (i : Nat) (h : i < xs.length) : (mkL mk cnt (xs.take i) k ++ xs.drop i)[i]? = some (xs.getD i z) := by
  have hl : (mkL mk cnt (xs.take i) k).length = i := by rw [mkL_length, List.length_take]; omega
  rw [List.getElem?_append_right (by omega), hl, Nat.sub_self, drop_getD xs i z h]
  rfl
theorem mkL_mid (xs : List α) (k : Int) (i : Nat) : (mkL mk cnt (xs.take i) k ++ xs.drop i).length = xs.length := by
  rw [List.length_append, mkL_length, List.length_take, List.length_drop]
  omega
theorem mkL_end (xs : List α) (k : Int) (i : Nat) (h : xs.length ≤ i) : mkL mk cnt (xs.take i) k ++ xs.drop i = mkL mk cnt xs k := by
  rw [List.take_of_length_le h, List.drop_eq_nil_of_le h, List.append_nil]
end
end Go.Proofs.Ytojpimpfpjhflaa.Fw
namespace Go.Proofs.Ytojpimpfpjhflaa.Fw
open Go Go.RowKit Go.Proofs.YtojpimpfpjhflaaW.PrintWords
set_option linter.unusedVariables false
set_option linter.unusedSimpArgs false
section
variable {P : Program} {w0 w w' : World} {S0 : Fp} {L F : List Asn} {K : Asn → List Asn} {α β : Type} {dk : Kd α} {ow : Ow dk} {e g i n c : Nat} {xs : List α}
theorem row_fill {x1 : α} {vs us : List Value} (H : St w0 S0 (El ow x1 vs :: F) w) (hu : U F (RwH ow e (.slice (some ⟨g, 0, none⟩) xs.length c) xs i us) K) :
    ∃ w', (storeCells ⟨g, i * dk.sz, none⟩ vs 0).run P w = .ok () w' ∧ St w0 S0 (K (Rw ow e (.slice (some ⟨g, 0, none⟩) xs.length c) (xs.set i x1))) w' := by
  obtain ⟨S1, S2, hx, ⟨vss, e1, h1, h2, h3⟩, hd, hl, hre⟩ := H.opn2 hu
  obtain ⟨hlen, hs⟩ := bigsH_len h3
  obtain ⟨w', hr, hsz, ho, hm⟩ := own_stores (P := P) (i := i) vs 0 us vss w h2 e1 hs (by rw [ow.len hx]; omega) (ow.one hx)
  refine ⟨w', hr, hre (Rw ow e (.slice (some ⟨g, 0, none⟩) xs.length c) (xs.set i x1)) w' (fun k => S1 k ∨ S2 k) (hm.mono fun k _ hk => .inr (h1 k (by rw [hk]; rfl))) ⟨vss.set i vs, fun k hk => .inr (h1 k hk), by rw [List.length_set]; simpa using ho, ?_⟩ fun k hk => ⟨by rw [hsz]; exact hl k hk, .inl hk⟩⟩
  have hg2 : S2 g := h1 g rfl
  have hne : ∀ k, S1 k → k ≠ g := fun k hk e => hd k hk (e ▸ hg2)
  have hlk : ∀ k, k < w.heap.size → k ≠ g → w'.heap[k]? = w.heap[k]? := fun k hk e => hm.block k hk e
  refine bigs_back (S1 := S1) (S2 := fun k => S2 k ∧ some k ≠ (Value.slice (some ⟨g, 0, none⟩) xs.length c).ownBlock) (bigsH_stab h3 fun k hk => ?_) (ow.stab hx fun k hk => hlk k (hl k (.inl hk)) (hne k hk)) (fun k a b => hd k a b.1) (fun k hk => ⟨.inl hk, fun e => hne k hk ?_⟩) (fun k hk => ⟨.inr hk.1, hk.2⟩)
  · exact hlk k (hl k (.inr hk.1)) (fun e => hk.2 (by rw [e]; rfl))
  · simpa [Value.ownBlock] using e
end
section
variable {P : Program} {f : FuncId} {n : Nat} {R : Ending → World → Prop} {k : List Item} {τ : Tm} {w0 w : World} {S0 : Fp} {L F : List Asn} {K : Asn → List Asn} {ops : Array Oper} {i : Nat} {rest : List Nat} {o : Oper}
variable {α β : Type} {dk : Kd α} {ow : Ow dk}
theorem WO.sfill {t e : TypeId} {x y : Operand} {g q j c sz : Nat} {x1 : α} {xs : List α} {v : Value} {vs us : List Value} (ho : ops[i]? = some o) (hk : okOp0 ops τ o = true) (hop : o.op = .store t x y) (hx : ev τ x = .pointer (some ⟨g, q, none⟩)) (hy : ev τ y = v) (hv : v.cells = vs.toArray)
    (hz : ∀ w, (sizeOf t).run P w = .ok sz w) (hsz : vs.length = sz) (H : St w0 S0 (El ow x1 vs :: F) w) (hu : U F (RwH ow e (.slice (some ⟨g, 0, none⟩) xs.length c) xs j us) K) (hq : q = j * dk.sz)
    (h : ∀ w', St w0 S0 (K (Rw ow e (.slice (some ⟨g, 0, none⟩) xs.length c) (xs.set j x1))) w' → WO P f n R ops k rest τ w') : WO P f n R ops k (i :: rest) τ w := by
  subst hq
  obtain ⟨w', hr, H'⟩ := row_fill (P := P) H hu
  exact WO.u ho hk (r_storeAt hop hx hy hv hz hsz hr) (h w' H')
end
section
variable {w0 w : World} {S0 : Fp} {L : List Asn} {ρ : Operand → Value}
theorem St.block_alloc {cs : List Value} {t : TypeId} (H : St w0 S0 L w) : St w0 S0 (Bk w.heap.size cs t :: L) (w.alloc (.cells cs.toArray t)) :=
  H.block_new (Blk.new w cs t) (by simp) (Mut.of_alloc w _)
theorem bparts1 {x : Operand} {v : Value} (h : ρ x = v) : ((#[(0, x)] : Array (Nat × Operand)).toList.map fun p => (p.1, ρ p.2)).toArray = #[(0, v)] := by subst h; rfl
theorem bparts2 {x y : Operand} {v u : Value} (h : ρ x = v) (h2 : ρ y = u) : ((#[(0, x), (1, y)] : Array (Nat × Operand)).toList.map fun p => (p.1, ρ p.2)).toArray = #[(0, v), (1, u)] := by subst h h2; rfl
theorem bparts3 {x y z : Operand} {v u t : Value} (h : ρ x = v) (h2 : ρ y = u) (h3 : ρ z = t) : ((#[(0, x), (1, y), (2, z)] : Array (Nat × Operand)).toList.map fun p => (p.1, ρ p.2)).toArray = #[(0, v), (1, u), (2, t)] := by subst h h2 h3; rfl
theorem r_make {P : Program} {o : Oper} {w w' : World} {t : TypeId} {x y : Operand} {v a b : Value} (hop : o.op = .makeSlice t x y) (hx : ρ x = a) (hy : ρ y = b) (hr : (Instr.makeSlice t a b).run P w = .ok v w') : (execOp ρ o).run P w = .ok (.value v) w' := by
  simp [execOp, hop, hx, hy, hr]
end
/-- What is handed on where only some make anything. -/
theorem fm_pick {β : Type} {Lp : Nat → List β} {p : Nat} {c pr : Nat → Bool} {l : List Nat} (h : ∀ j, j < p → pr j = false → Lp j = []) (hl : (List.range p).filter (fun j => c j && pr j) = l) : ((List.range p).filter c).flatMap Lp = l.flatMap Lp := by
  subst hl
  have key : ∀ ls : List Nat, (∀ j ∈ ls, j < p) → (ls.filter c).flatMap Lp = (ls.filter (fun j => c j && pr j)).flatMap Lp := by
    intro ls
    induction ls with
    | nil => intro _; rfl
    | cons a ls ih =>
      intro hp
      have ih' := ih fun j hj => hp j (List.mem_cons_of_mem _ hj)
      have ha := h a (hp a List.mem_cons_self)
      simp only [List.filter_cons]
      cases hc : c a <;> cases hr : pr a <;> simp [ih', ha, hr]
  exact key _ fun j hj => List.mem_range.1 hj
end Go.Proofs.Ytojpimpfpjhflaa.Fw
namespace Go.Proofs.Ytojpimpfpjhflaa.Fw
open Go Go.RowKit Go.Proofs.YtojpimpfpjhflaaW.PrintWords
set_option linter.unusedVariables false
set_option linter.unusedSimpArgs false

/-! ### slices of slices -/
section
variable {P : Program} {w : World} {o : Oper} {ρ : Operand → Value} {t e : TypeId} {x : Operand} {A : Option Addr} {g off q n c sz : Nat}
theorem elem_eq (ht : P.underlying t = some (.slice e)) : P.underlying t = some (.slice (P.elem t)) := by simp [Program.elem, ht]
theorem elem_is (ht : P.underlying t = some (.slice e)) : P.elem t = e := by simp [Program.elem, ht]
theorem sliced_at (l h m : Nat) (hq : (if m = l then off else off + l * sz) = q) : sliced (some ⟨g, off, none⟩) l h m sz = .slice (some ⟨g, q, none⟩) (h - l) (m - l) := by
  subst hq
  unfold sliced
  split
  · rfl
  · simp [add_gg]
theorem sliced_zero (h m : Nat) : sliced A 0 h m sz = .slice A h m := by
  unfold sliced
  split
  · simp
  · cases A <;> simp [Addr.add]
theorem r_sliceHigh {y : Operand} {h : Nat} (ho : o.op = .slice t x none (some y) none) (hx : ρ x = .slice A n c) (hy : ρ y = .int .i64 h) (ht : P.underlying t = some (.slice e)) (hs : ∀ w, (sizeOf e).run P w = .ok sz w) (hh : h ≤ c) :
    (execOp ρ o).run P w = .ok (.value (.slice A h c)) w := by
  have h1 := run_slice_h (P := P) w t A n c (elem_eq ht) .i64 (h : Int) (by omega) (by omega)
  rw [elem_is ht, hs] at h1
  have h2 : sliced A 0 h c sz = .slice A h c := sliced_zero _ _
  simp [execOp, ho, hx, hy, Instr.sliceAt, run_underlying ht, h1, h2]
theorem r_sliceLow {y : Operand} {l : Nat} (ho : o.op = .slice t x (some y) none none) (hx : ρ x = .slice (some ⟨g, off, none⟩) n c) (hy : ρ y = .int .i64 l) (ht : P.underlying t = some (.slice e)) (hs : ∀ w, (sizeOf e).run P w = .ok sz w) (hh : l ≤ n)
    (hq : (if c = l then off else off + l * sz) = q) : (execOp ρ o).run P w = .ok (.value (.slice (some ⟨g, q, none⟩) (n - l) (c - l))) w := by
  have h1 := run_slice_l (P := P) w t (some ⟨g, off, none⟩) n c (elem_eq ht) .i64 (l : Int) (by omega) (by omega)
  rw [elem_is ht, hs] at h1
  have h2 : sliced (some ⟨g, off, none⟩) l n c sz = .slice (some ⟨g, q, none⟩) (n - l) (c - l) := sliced_at _ _ _ hq
  simp [execOp, ho, hx, hy, Instr.sliceAt, run_underlying ht, h1, h2]
theorem r_sliceLow0 {y : Operand} {l : Nat} (ho : o.op = .slice t x (some y) none none) (hx : ρ x = .slice A n c) (hy : ρ y = .int .i64 l) (ht : P.underlying t = some (.slice e)) (hs : ∀ w, (sizeOf e).run P w = .ok sz w) (hh : l ≤ n) :
    (execOp ρ o).run P w = .ok (.value (.slice (if c = l then A else A.map (·.add (l * sz))) (n - l) (c - l))) w := by
  have h1 := run_slice_l (P := P) w t A n c (elem_eq ht) .i64 (l : Int) (by omega) (by omega)
  rw [elem_is ht, hs] at h1
  have h2 : sliced A l n c sz = .slice (if c = l then A else A.map (·.add (l * sz))) (n - l) (c - l) := rfl
  simp [execOp, ho, hx, hy, Instr.sliceAt, run_underlying ht, h1, h2]
theorem r_sliceLowHigh {y z : Operand} {l h : Nat} (ho : o.op = .slice t x (some y) (some z) none) (hx : ρ x = .slice (some ⟨g, off, none⟩) n c) (hy : ρ y = .int .i64 l) (hz : ρ z = .int .i64 h) (ht : P.underlying t = some (.slice e)) (hs : ∀ w, (sizeOf e).run P w = .ok sz w) (hlh : l ≤ h) (hh : h ≤ c)
    (hq : (if c = l then off else off + l * sz) = q) : (execOp ρ o).run P w = .ok (.value (.slice (some ⟨g, q, none⟩) (h - l) (c - l))) w := by
  have h1 := run_slice_lh (P := P) w t (some ⟨g, off, none⟩) n c (elem_eq ht) .i64 .i64 (l : Int) (h : Int) (by omega) (by omega) (by omega)
  rw [elem_is ht, hs] at h1
  have h2 : sliced (some ⟨g, off, none⟩) l h c sz = .slice (some ⟨g, q, none⟩) (h - l) (c - l) := sliced_at _ _ _ hq
  simp [execOp, ho, hx, hy, hz, Instr.sliceAt, run_underlying ht, h1, h2]
theorem r_slice3 {y z u : Operand} {l h m : Nat} (ho : o.op = .slice t x (some y) (some z) (some u)) (hx : ρ x = .slice (some ⟨g, off, none⟩) n c) (hy : ρ y = .int .i64 l) (hz : ρ z = .int .i64 h) (hu : ρ u = .int .i64 m) (ht : P.underlying t = some (.slice e)) (hs : ∀ w, (sizeOf e).run P w = .ok sz w) (hlh : l ≤ h) (hhm : h ≤ m) (hh : m ≤ c)
    (hq : (if m = l then off else off + l * sz) = q) : (execOp ρ o).run P w = .ok (.value (.slice (some ⟨g, q, none⟩) (h - l) (m - l))) w := by
  have h1 := run_slice_lhm (P := P) w t (some ⟨g, off, none⟩) n c (elem_eq ht) .i64 .i64 .i64 (l : Int) (h : Int) (m : Int) (by omega) (by omega) (by omega) (by omega)
  rw [elem_is ht, hs] at h1
  have h2 : sliced (some ⟨g, off, none⟩) l h m sz = .slice (some ⟨g, q, none⟩) (h - l) (m - l) := sliced_at _ _ _ hq
  simp [execOp, ho, hx, hy, hz, hu, Instr.sliceAt, run_underlying ht, h1, h2]
end

/-! ### stores into a block from some place on -/
section
variable {P : Program} {w : World} {g : Nat} {t : TypeId}
theorem stores_at : ∀ (vs : List Value) (o i : Nat), storeCells ⟨g, o, none⟩ vs i = storeCells ⟨g, 0, none⟩ vs (o + i)
  | [], o, i => by simp [storeCells]
  | v :: vs, o, i => by
    simp only [storeCells]
    rw [add_gg, add_gg, stores_at vs o (i + 1), Nat.zero_add]
    rfl
theorem run_storesAt {cs vs : List Value} {o : Nat} (hb : Blk w g cs t) (hl : o + vs.length ≤ cs.length) (h1 : ∀ u ∈ vs, u.oneCell' = true) :
    ∃ w', (storeCells ⟨g, o, none⟩ vs 0).run P w = .ok () w' ∧ w'.heap.size = w.heap.size ∧ Blk w' g (cs.take o ++ vs ++ cs.drop (o + vs.length)) t ∧ Mut (fun k => k = g) w w' := by
  have hlt : (cs.take o).length = o := by rw [List.length_take]; omega
  have hb' : Blk w g (cs.take o ++ cs.drop o) t := by rwa [List.take_append_drop]
  obtain ⟨w', hr, hs, hb2, hm⟩ := run_storeCells (P := P) g vs (cs.take o) (cs.drop o) t w hb' (by rw [List.length_drop]; omega) h1
  rw [hlt] at hr
  rw [List.drop_drop] at hb2
  exact ⟨w', by rw [stores_at, Nat.add_zero]; exact hr, hs, hb2, hm⟩
end

/-! ### append in place, and clear -/
section
variable {P : Program} {f : FuncId} {n : Nat} {R : Ending → World → Prop} {k : List Item} {τ : Tm} {w0 w : World} {S0 : Fp} {L F : List Asn} {K : Asn → List Asn} {ops : Array Oper} {i : Nat} {rest : List Nat} {o : Oper}
theorem WO.un {v : Value} {w' : World} (ho : ops[i]? = some o) (hk : okOp0 ops τ o = true) (hr : (execOp (ev τ) o).run P w = .ok (.value v) w') (h : WO P f n R ops k rest τ w') : WO P f n R ops k (i :: rest) τ w := by
  unfold okOp0 at hk
  simp only [Bool.and_eq_true] at hk
  have hd : o.dst = none := by
    cases hd : o.dst with
    | none => rfl
    | some d' => rw [hd] at hk; simp at hk
  exact WO.val ho hk.2 (by rw [hd]; rfl) hr (by rw [hd]; exact h)
/-- append where there is room: the cells vs, wherever they lie. -/
theorem append_room {t ty e t' : TypeId} {z : Value} {sz bytes c c2 g m q : Nat} {B : Option Addr} {cs vs : List Value}
    (ht : P.underlying t = some (.slice e)) (hinfo : (P.info? e).map (fun i => (i.zero, i.size, i.bytes)) = some (some z, sz, bytes))
    (H : St w0 S0 L w) (hu : U L (Bk g cs t') K) (hq : vs.length = q * sz) (hsrc : ∀ b, B = some b → ∀ j u, vs[j]? = some u → w.cell? (b.add j) = some u) (hnil : B = none → q = 0) (h1 : ∀ u ∈ vs, u.oneCell' = true) (hroom : m + q ≤ c) (hcs : cs.length = c * sz) :
    ∃ w', (Builtin.append_ #[t, t] ty #[.slice (some ⟨g, 0, none⟩) m c, .slice B q c2]).run P w = .ok (.slice (some ⟨g, 0, none⟩) (m + q) c) w' ∧ St w0 S0 (K (Bk g (cs.take (m * sz) ++ vs ++ cs.drop ((m + q) * sz)) t')) w' := by
  obtain ⟨inf, hi, hzz⟩ := Option.map_eq_some_iff.1 hinfo
  simp only [Prod.mk.injEq] at hzz
  obtain ⟨hz, hsize, hby⟩ := hzz
  have hle : m * sz + vs.length ≤ cs.length := by rw [hcs, hq, ← Nat.add_mul]; exact Nat.mul_le_mul_right _ hroom
  obtain ⟨w', hr, hs, hb2, hm⟩ := run_storesAt (P := P) (H.blk hu) hle h1
  have e1 : m * sz + vs.length = (m + q) * sz := by rw [hq, Nat.add_mul]
  rw [e1] at hb2
  refine ⟨w', ?_, H.block_set hu hb2 hm⟩
  have hfc : (Builtin.firstCells sz q (.slice B q c2)).run P w = .ok vs.toArray w := by
    cases B with
    | none =>
      have : vs = [] := List.eq_nil_of_length_eq_zero (by rw [hq, hnil rfl, Nat.zero_mul])
      subst this
      simp [Builtin.firstCells]
    | some b =>
      simp only [Builtin.firstCells]
      rw [← hq]
      exact run_loadCells_list w b vs (hsrc b rfl)
  have hss : (Addr.add ⟨g, 0, none⟩ (m * sz)) = ⟨g, m * sz, none⟩ := by rw [add_gg, Nat.zero_add]
  simp [Builtin.append_, run_underlying ht, sizeOf, typeInfo, hi, Builtin.lenOf, hsize, hroom, hfc, hss, hr]
theorem clear_raw {t ty e t' : TypeId} {z : Value} {c2 g q m : Nat} {zs : List Value} {cs : List Value}
    (ht : P.underlying t = some (.slice e)) (hz : ∀ w, (zeroValue e).run P w = .ok z w) (hm : (Builtin.zeroCells z.cells m).toList = zs) (h1 : ∀ u ∈ zs, u.oneCell' = true)
    (H : St w0 S0 L w) (hu : U L (Bk g cs t') K) (hle : q + zs.length ≤ cs.length) (h0 : 0 < m) :
    ∃ w', (Builtin.clear_ #[t] ty #[.slice (some ⟨g, q, none⟩) m c2]).run P w = .ok (.tuple #[]) w' ∧ St w0 S0 (K (Bk g (cs.take q ++ zs ++ cs.drop (q + zs.length)) t')) w' := by
  obtain ⟨w', hr, hs, hb2, hmm⟩ := run_storesAt (P := P) (H.blk hu) hle h1
  refine ⟨w', ?_, H.block_set hu hb2 hmm⟩
  obtain ⟨m, rfl⟩ : ∃ k, m = k + 1 := ⟨m - 1, by omega⟩
  simp [Builtin.clear_, run_underlying ht, hz, hm, hr]
theorem r_clear {t : TypeId} {x : Operand} {v : Value} {w' : World} {ρ : Operand → Value} (hop : o.op = .call { callee := .builtin .clear, args := #[x], argTypes := #[t] }) (hx : ρ x = v) (hr : (Builtin.clear_ #[t] o.type #[v]).run P w = .ok (.tuple #[]) w') :
    (execOp ρ o).run P w = .ok (.value (.tuple #[])) w' := by
  simp only [execOp, hop, resolve, invoke, builtin, Sem.run_bind, Sem.run_pure, Sem.run_pure', Result.andThen_ok, List.map_toArray, List.map_cons, List.map_nil, hx, hr]
end

/-! ### a flat row, and its block -/
section
variable {α : Type} {d : Kd α} {ow : Ow d} {w0 w : World} {S0 : Fp} {L : List Asn} {K : Asn → List Asn} {e g c n : Nat} {xs : List α}
theorem St.raw {A : Option Addr} (H : St w0 S0 L w) (hu : U L (Rw ow e (.slice A xs.length c) xs) K) (hn : 0 < xs.length) :
    ∃ (g : Nat) (cs : List Value) (vss : List (List Value)), A = some ⟨g, 0, none⟩ ∧ St w0 S0 (K (Bk g cs e)) w ∧ cs.length = c * d.sz ∧ xs.length ≤ c ∧ c ≤ maxLen ∧ cs.take (xs.length * d.sz) = vss.flatten ∧ vss.length = xs.length ∧ (∀ vs ∈ vss, vs.length = d.sz) ∧ ∀ (j : Nat) (x : α) (vs : List Value), xs[j]? = some x → vss[j]? = some vs → d.K w x vs := by
  obtain ⟨S, ⟨vss, h1, h2, h3⟩, _⟩ := H.get hu
  obtain ⟨hl, hs⟩ := bigs_len h3
  rcases h2.2 with ⟨_, h0⟩ | ⟨g, cap, cur, he, _, hh, h4, h5, h6, h7⟩
  · omega
  · cases he
    refine ⟨g, cur.toList, vss, rfl, H.imp hu fun S' ⟨vss', h1', _, _⟩ _ => ⟨by unfold Blk; simpa using hh, h1' g rfl⟩, by simpa using h6, h4, h5, h7, hl, hs, fun j x vs hx hv => ?_⟩
    obtain ⟨S1, hS1, _⟩ := bigs_at h3 hx hv
    exact ow.toK hS1
theorem St.unraw {cs : List Value} {vss : List (List Value)} (H : St w0 S0 L w) (hu : U L (Bk g cs e) K) (hf : Flat ow) (hc : cs.length = c * d.sz) (hx : xs.length ≤ c) (hm : c ≤ maxLen) (ht : cs.take (xs.length * d.sz) = vss.flatten) (hl : vss.length = xs.length)
    (hk : ∀ (j : Nat) (x : α) (vs : List Value), xs[j]? = some x → vss[j]? = some vs → d.K w x vs) : St w0 S0 (K (Rw ow e (.slice (some ⟨g, 0, none⟩) xs.length c) xs)) w :=
  H.imp hu fun S ⟨hb, hS⟩ _ => ⟨vss, fun k hk => by simp [Value.ownBlock] at hk; subst hk; exact hS, ⟨by
    rw [← ht, List.length_take, hc]
    exact Nat.min_eq_left (Nat.mul_le_mul_right _ hx), .inr ⟨g, c, cs.toArray, rfl, Nat.zero_le _, hb, hx, hm, by simpa using hc, by simpa using ht⟩⟩, bigs_flat hf hl hk⟩
end
end Go.Proofs.Ytojpimpfpjhflaa.Fw
namespace Go.Proofs.Ytojpimpfpjhflaa.Fw
open Go Go.RowKit Go.Proofs.YtojpimpfpjhflaaW.PrintWords
section
variable {P : Program} {f : FuncId} {n : Nat} {R : Ending → World → Prop} {k : List Item} {τ : Tm} {w0 w : World} {S0 : Fp} {L F : List Asn} {K : Asn → List Asn} {ops : Array Oper} {i : Nat} {rest : List Nat} {o : Oper}
/-- A literal of a slice, as its block. -/
theorem WO.sblit (d : Nat) {t m e q : Nat} {parts : Array (Nat × Operand)} {pv : Array (Nat × Value)} (cs : List Value) (ho : ops[i]? = some o) (hk : okOp n ops τ o d true = true) (hop : o.op = .buildSlice t m parts) (hp : (parts.toList.map fun p => (p.1, ev τ p.2)).toArray = pv)
    (hb : ∀ w, (Instr.buildSlice t m pv).run P w = .ok (.slice (some ⟨w.heap.size, 0, none⟩) q q) (w.alloc (.cells cs.toArray e)))
    (H : St w0 S0 L w) (h : ∀ g w', St w0 S0 (Bk g cs e :: L) w' → WO P f n R ops k rest (upd τ d (.slice (some ⟨g, 0, none⟩) q q)) w') : WO P f n R ops k (i :: rest) τ w :=
  WO.v d ho hk (r_lit hop (hb w) hp) (h _ _ H.block_alloc)
end
end Go.Proofs.Ytojpimpfpjhflaa.Fw
namespace Go.Proofs.Ytojpimpfpjhflaa.Fw
open Go Go.RowKit Go.Proofs.YtojpimpfpjhflaaW.PrintWords
section
variable {α : Type} {d : Kd α} {o : Ow d} {w0 w : World} {S0 : Fp} {L : List Asn} {K : Asn → List Asn} {e n c i g off q : Nat} {A : Option Addr} {xs l : List α} {u : Value}
/-- The one cell of the element that is out. -/
theorem St.holeCell (H : St w0 S0 L w) (hu : U L (RwH o e (.slice (some ⟨g, 0, none⟩) n c) xs i [u]) K) (hz : d.sz = 1) : w.cell? ⟨g, 0 + i, none⟩ = some u := by
  obtain ⟨_, _, g', e', hc⟩ := H.hole hu
  cases e'
  have := hc 0 _ rfl
  rw [hz, Nat.mul_one, Nat.add_zero] at this
  rw [Nat.zero_add]
  exact this
theorem C_take (h : d.C w A l.length l) (i : Nat) : d.C w A (l.take i).length (l.take i) := by
  obtain ⟨h1, h2, h3⟩ := h
  refine ⟨rfl, Nat.le_trans (List.length_take_le' _ _) h2, fun h0 => ?_⟩
  obtain ⟨ad, rfl, hc⟩ := h3 (by rw [List.length_take] at h0; omega)
  exact ⟨ad, rfl, fun j p hj => hc j p (by
    rw [List.getElem?_take] at hj
    split at hj
    · exact hj
    · simp at hj)⟩
theorem C_drop (h : d.C w (some ⟨g, off, none⟩) l.length l) (i : Nat) (hq : i < l.length → q = off + i * d.sz) : d.C w (some ⟨g, q, none⟩) (l.drop i).length (l.drop i) := by
  obtain ⟨h1, h2, h3⟩ := h
  refine ⟨rfl, Nat.le_trans (by rw [List.length_drop]; omega) h2, fun h0 => ?_⟩
  rw [List.length_drop] at h0
  obtain ⟨ad, e, hc⟩ := h3 (by omega)
  cases e
  rw [hq (by omega)]
  refine ⟨_, rfl, fun j p hj => ?_⟩
  obtain ⟨cs, hl, hk, hcell⟩ := hc (i + j) p (by rw [List.getElem?_drop] at hj; exact hj)
  refine ⟨cs, hl, hk, fun m u hu => ?_⟩
  have := hcell m u hu
  rw [add_gg] at this ⊢
  rw [show off + i * d.sz + (j * d.sz + m) = off + ((i + j) * d.sz + m) by rw [Nat.add_mul]; omega]
  exact this
end
end Go.Proofs.Ytojpimpfpjhflaa.Fw
