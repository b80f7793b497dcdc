/- Literals of slices, and min, for the walk; nothing of one program. -/
import Derived.Test.YtojpimpfpjhflaaSlOps2
namespace Go.Proofs.Ytojpimpfpjhflaa.Fw
open Go Go.RowKit Go.Proofs.YtojpimpfpjhflaaW.PrintWords
set_option linter.unusedVariables false
set_option linter.unusedSimpArgs false
section
variable {P : Program} {f : FuncId} {n : Nat} {R : Ending → World → Prop} {k : List Item} {τ : Tm} {w0 w : World} {S0 : Fp} {L F : List Asn} {K : Asn → List Asn} {ops : Array Oper} {i : Nat} {rest : List Nat} {o : Oper} {ρ : Operand → Value}
variable {α β : Type} {dk : Kd α} {ow : Ow dk}
theorem r_lit {t m : Nat} {parts : Array (Nat × Operand)} {pv : Array (Nat × Value)} {v : Value} {w' : World} (ho : o.op = .buildSlice t m parts) (hb : (Instr.buildSlice t m pv).run P w = .ok v w') (hp : (parts.toList.map fun p => (p.1, ρ p.2)).toArray = pv) : (execOp ρ o).run P w = .ok (.value v) w' := by
  have e : (parts.map fun (i, x) => (i, ρ x)) = pv := by rw [← hp, map_arr]
  simp only [execOp, ho, Sem.run_bind, Sem.run_pure, Sem.run_pure', Result.andThen_ok]
  rw [e, hb]
  rfl
theorem WO.slit (d : Nat) {t m e : Nat} {parts : Array (Nat × Operand)} {pv : Array (Nat × Value)} (xs : List α) (vss : List (List Value)) (ho : ops[i]? = some o) (hk : okOp n ops τ o d true = true) (hop : o.op = .buildSlice t m parts) (hp : (parts.toList.map fun p => (p.1, ev τ p.2)).toArray = pv)
    (hb : ∀ w, (Instr.buildSlice t m pv).run P w = .ok (.slice (some ⟨w.heap.size, 0, none⟩) xs.length xs.length) (w.alloc (.cells vss.flatten.toArray e))) (hl : vss.length = xs.length) (hown : ∀ (j : Nat) (x : α) (vs : List Value), xs[j]? = some x → vss[j]? = some vs → ow.own w Em x vs) (hm : xs.length ≤ 4096)
    (H : St w0 S0 L w) (h : ∀ g w', St w0 S0 (Rw ow e (.slice (some ⟨g, 0, none⟩) xs.length xs.length) xs :: L) w' → WO P f n R ops k rest (upd τ d (.slice (some ⟨g, 0, none⟩) xs.length xs.length)) w') : WO P f n R ops k (i :: rest) τ w :=
  WO.v d ho hk (r_lit hop (hb w) hp) (h _ _ (H.row_new hl hown (by simp only [maxLen]; omega)))
theorem own_nil_ {w : World} : ∀ (j : Nat) (x : α) (vs : List Value), ([] : List α)[j]? = some x → ([] : List (List Value))[j]? = some vs → ow.own w Em x vs := fun j x vs h => by simp at h
theorem own_one_ {w : World} {x1 : α} {vs1 : List Value} (h : ow.own w Em x1 vs1) : ∀ (j : Nat) (x : α) (vs : List Value), [x1][j]? = some x → [vs1][j]? = some vs → ow.own w Em x vs := fun j x vs hx hv => by
  cases j with
  | zero => simp at hx hv; subst hx hv; exact h
  | succ j => simp at hx
theorem r_min {t : TypeId} {x y : Operand} {kk : IntKind} {a b c : Int} (ho : o.op = .call { callee := .builtin .min, args := #[x, y], argTypes := #[t, t] }) (hx : ρ x = .int kk a) (hy : ρ y = .int kk b) (hc : (if b < a then b else a) = c) : (execOp ρ o).run P w = .ok (.value (.int kk c)) w := by
  subst hc
  simp [execOp, ho, resolve, invoke, builtin, Builtin.min_, Builtin.min2, hx, hy, pure, bind, Sem.bind, Sem.run, List.foldlM]
theorem r_max {t : TypeId} {x y : Operand} {kk : IntKind} {a b c : Int} (ho : o.op = .call { callee := .builtin .max, args := #[x, y], argTypes := #[t, t] }) (hx : ρ x = .int kk a) (hy : ρ y = .int kk b) (hc : (if a < b then b else a) = c) : (execOp ρ o).run P w = .ok (.value (.int kk c)) w := by
  subst hc
  simp [execOp, ho, resolve, invoke, builtin, Builtin.max_, Builtin.max2, hx, hy, pure, bind, Sem.bind, Sem.run, List.foldlM]
end
end Go.Proofs.Ytojpimpfpjhflaa.Fw
