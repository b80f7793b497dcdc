/- The operations' rules for the walk: what each operation comes to. -/
import Derived.Test.YtojpimpfpjhflaaFw
import Derived.Laws.World
namespace Go.Proofs.Ytojpimpfpjhflaa.Fw
open Go Go.RowKit
set_option linter.unusedVariables false
set_option linter.unusedSimpArgs false
theorem wrap_in {a : Int} (h0 : -9223372036854775808 ≤ a) (h1 : a ≤ 9223372036854775807) : IntKind.i64.wrap a = a := by
  simp [IntKind.wrap, IntKind.bits, IntKind.signed]; omega
section
variable {P : Program} {ρ : Operand → Value} {o : Oper} {w : World}

/-! ### plain values -/
theorem r_move {x : Operand} {v : Value} (ho : o.op = .move x) (hx : ρ x = v) : (execOp ρ o).run P w = .ok (.value v) w := by subst hx; simp [execOp, ho, pure, Sem.run]
theorem r_assign {x : Operand} {v : Value} (ho : o.op = .assign x) (hx : ρ x = v) : (execOp ρ o).run P w = .ok (.value v) w := by subst hx; simp [execOp, ho, pure, Sem.run]
theorem r_moveI {x : Operand} {kk : IntKind} {a : Int} (ho : o.op = .move x) (hx : ρ x = .int kk a) : (execOp ρ o).run P w = .ok (.value (.int kk a)) w := r_move ho hx
theorem r_assignI {x : Operand} {kk : IntKind} {a : Int} (ho : o.op = .assign x) (hx : ρ x = .int kk a) : (execOp ρ o).run P w = .ok (.value (.int kk a)) w := r_assign ho hx
theorem r_moveB {x : Operand} {a : Bool} (ho : o.op = .move x) (hx : ρ x = .bool a) : (execOp ρ o).run P w = .ok (.value (.bool a)) w := r_move ho hx
theorem r_assignB {x : Operand} {a : Bool} (ho : o.op = .assign x) (hx : ρ x = .bool a) : (execOp ρ o).run P w = .ok (.value (.bool a)) w := r_assign ho hx
theorem r_moveS {x : Operand} {a : ByteArray} (ho : o.op = .move x) (hx : ρ x = .string a) : (execOp ρ o).run P w = .ok (.value (.string a)) w := r_move ho hx
theorem r_assignS {x : Operand} {a : ByteArray} (ho : o.op = .assign x) (hx : ρ x = .string a) : (execOp ρ o).run P w = .ok (.value (.string a)) w := r_assign ho hx
theorem r_moveP {x : Operand} {a : Option Addr} (ho : o.op = .move x) (hx : ρ x = .pointer a) : (execOp ρ o).run P w = .ok (.value (.pointer a)) w := r_move ho hx
theorem r_assignP {x : Operand} {a : Option Addr} (ho : o.op = .assign x) (hx : ρ x = .pointer a) : (execOp ρ o).run P w = .ok (.value (.pointer a)) w := r_assign ho hx
theorem r_moveL {x : Operand} {a : Option Addr} {m c : Nat} (ho : o.op = .move x) (hx : ρ x = .slice a m c) : (execOp ρ o).run P w = .ok (.value (.slice a m c)) w := r_move ho hx
theorem r_assignL {x : Operand} {a : Option Addr} {m c : Nat} (ho : o.op = .assign x) (hx : ρ x = .slice a m c) : (execOp ρ o).run P w = .ok (.value (.slice a m c)) w := r_assign ho hx
theorem r_moveG {x : Operand} {a : Array Value} (ho : o.op = .move x) (hx : ρ x = .agg a) : (execOp ρ o).run P w = .ok (.value (.agg a)) w := r_move ho hx
theorem r_assignG {x : Operand} {a : Array Value} (ho : o.op = .assign x) (hx : ρ x = .agg a) : (execOp ρ o).run P w = .ok (.value (.agg a)) w := r_assign ho hx
theorem r_moveF {x : Operand} {g : Fn} {a b : Array Value} (ho : o.op = .move x) (hx : ρ x = .func g a b) : (execOp ρ o).run P w = .ok (.value (.func g a b)) w := r_move ho hx
theorem r_assignF {x : Operand} {g : Fn} {a b : Array Value} (ho : o.op = .assign x) (hx : ρ x = .func g a b) : (execOp ρ o).run P w = .ok (.value (.func g a b)) w := r_assign ho hx
theorem r_moveM {x : Operand} {a : Option Nat} (ho : o.op = .move x) (hx : ρ x = .map a) : (execOp ρ o).run P w = .ok (.value (.map a)) w := r_move ho hx
theorem r_assignM {x : Operand} {a : Option Nat} (ho : o.op = .assign x) (hx : ρ x = .map a) : (execOp ρ o).run P w = .ok (.value (.map a)) w := r_assign ho hx
theorem r_moveT {x : Operand} {a : Array Value} (ho : o.op = .move x) (hx : ρ x = .tuple a) : (execOp ρ o).run P w = .ok (.value (.tuple a)) w := r_move ho hx
theorem r_assignT {x : Operand} {a : Array Value} (ho : o.op = .assign x) (hx : ρ x = .tuple a) : (execOp ρ o).run P w = .ok (.value (.tuple a)) w := r_assign ho hx
theorem r_pickB {c x y : Operand} {b q : Bool} (ho : o.op = .pick c x y) (hc : ρ c = .bool b) (hv : (if b then ρ x else ρ y) = .bool q) : (execOp ρ o).run P w = .ok (.value (.bool q)) w := by
  rw [← hv]; simp [execOp, ho, hc, asBool, pure, bind, Sem.bind, Sem.run]
theorem r_pick {c x y : Operand} {b : Bool} {v : Value} (ho : o.op = .pick c x y) (hc : ρ c = .bool b) (hv : (if b then ρ x else ρ y) = v) : (execOp ρ o).run P w = .ok (.value v) w := by
  subst hv; simp [execOp, ho, hc, asBool, pure, bind, Sem.bind, Sem.run]
theorem r_not {t : TypeId} {x : Operand} {b q : Bool} (ho : o.op = .unOp .not t x) (hx : ρ x = .bool b) (hq : (!b) = q) : (execOp ρ o).run P w = .ok (.value (.bool q)) w := by
  subst hq; simp [execOp, ho, hx, Op.unary, pure, bind, Sem.bind, Sem.run]
theorem eqGuard_int (op : BinOp) (t : TypeId) (x y : Operand) (k k' : IntKind) (a b : Int) : eqGuard op t x y (.int k a) (.int k' b) = pure () := by
  unfold eqGuard
  split <;> simp_all [pure]
theorem eqGuard_str (op : BinOp) (t : TypeId) (x y : Operand) (a b : ByteArray) : eqGuard op t x y (.string a) (.string b) = pure () := by
  unfold eqGuard
  split <;> simp_all [pure]
theorem eqGuard_bool (op : BinOp) (t : TypeId) (x y : Operand) (a b : Bool) : eqGuard op t x y (.bool a) (.bool b) = pure () := by
  unfold eqGuard
  split <;> simp_all [pure]
section
variable {t t' : TypeId} {x y : Operand} {k : IntKind} {a b c : Int} {q : Bool}
theorem r_add (ho : o.op = .binOp .add t x y t') (hx : ρ x = .int k a) (hy : ρ y = .int k b) (hc : k.wrap (a + b) = c) : (execOp ρ o).run P w = .ok (.value (.int k c)) w := by
  subst hc; simp [execOp, ho, hx, hy, eqGuard_int, binOp, Op.intArith, pure, bind, Sem.bind, Sem.run]
theorem r_sub (ho : o.op = .binOp .sub t x y t') (hx : ρ x = .int k a) (hy : ρ y = .int k b) (hc : k.wrap (a - b) = c) : (execOp ρ o).run P w = .ok (.value (.int k c)) w := by
  subst hc; simp [execOp, ho, hx, hy, eqGuard_int, binOp, Op.intArith, pure, bind, Sem.bind, Sem.run]
theorem r_mul (ho : o.op = .binOp .mul t x y t') (hx : ρ x = .int k a) (hy : ρ y = .int k b) (hc : k.wrap (a * b) = c) : (execOp ρ o).run P w = .ok (.value (.int k c)) w := by
  subst hc; simp [execOp, ho, hx, hy, eqGuard_int, binOp, Op.intArith, pure, bind, Sem.bind, Sem.run]
theorem r_quo (ho : o.op = .binOp .quo t x y t') (hx : ρ x = .int k a) (hy : ρ y = .int k b) (hb : b ≠ 0) (hc : k.wrap (a.tdiv b) = c) : (execOp ρ o).run P w = .ok (.value (.int k c)) w := by
  subst hc; simp [execOp, ho, hx, hy, eqGuard_int, binOp, Op.intDiv, hb, pure, bind, Sem.bind, Sem.run]
theorem r_rem (ho : o.op = .binOp .rem t x y t') (hx : ρ x = .int k a) (hy : ρ y = .int k b) (hb : b ≠ 0) (hc : a.tmod b = c) : (execOp ρ o).run P w = .ok (.value (.int k c)) w := by
  subst hc; simp [execOp, ho, hx, hy, eqGuard_int, binOp, Op.intDiv, hb, pure, bind, Sem.bind, Sem.run]
theorem r_lss (ho : o.op = .binOp .lss t x y t') (hx : ρ x = .int k a) (hy : ρ y = .int k b) (hq : decide (a < b) = q) : (execOp ρ o).run P w = .ok (.value (.bool q)) w := by
  subst hq; simp [execOp, ho, hx, hy, eqGuard_int, binOp, Op.intCmp, pure, bind, Sem.bind, Sem.run]
theorem r_leq (ho : o.op = .binOp .leq t x y t') (hx : ρ x = .int k a) (hy : ρ y = .int k b) (hq : decide (a ≤ b) = q) : (execOp ρ o).run P w = .ok (.value (.bool q)) w := by
  subst hq; simp [execOp, ho, hx, hy, eqGuard_int, binOp, Op.intCmp, pure, bind, Sem.bind, Sem.run]
theorem r_gtr (ho : o.op = .binOp .gtr t x y t') (hx : ρ x = .int k a) (hy : ρ y = .int k b) (hq : decide (b < a) = q) : (execOp ρ o).run P w = .ok (.value (.bool q)) w := by
  subst hq; simp [execOp, ho, hx, hy, eqGuard_int, binOp, Op.intCmp, pure, bind, Sem.bind, Sem.run]
theorem r_geq (ho : o.op = .binOp .geq t x y t') (hx : ρ x = .int k a) (hy : ρ y = .int k b) (hq : decide (b ≤ a) = q) : (execOp ρ o).run P w = .ok (.value (.bool q)) w := by
  subst hq; simp [execOp, ho, hx, hy, eqGuard_int, binOp, Op.intCmp, pure, bind, Sem.bind, Sem.run]
theorem r_eql (ho : o.op = .binOp .eql t x y t') (hx : ρ x = .int k a) (hy : ρ y = .int k b) (hq : decide (a = b) = q) : (execOp ρ o).run P w = .ok (.value (.bool q)) w := by
  subst hq; simp [execOp, ho, hx, hy, eqGuard_int, binOp, Op.intCmp, pure, bind, Sem.bind, Sem.run]; rfl
theorem r_neq (ho : o.op = .binOp .neq t x y t') (hx : ρ x = .int k a) (hy : ρ y = .int k b) (hq : decide (a ≠ b) = q) : (execOp ρ o).run P w = .ok (.value (.bool q)) w := by
  subst hq; simp [execOp, ho, hx, hy, eqGuard_int, binOp, Op.intCmp, pure, bind, Sem.bind, Sem.run]
  cases h : (a != b) <;> simp_all
end
theorem map_arr {α β : Type} (g : α → β) (xs : Array α) : (xs.toList.map g).toArray = xs.map g := by rw [← Array.toList_map]
theorem r_makeFunc {g : Fn} {fs cs : Array Operand} {vf vc : Array Value} (ho : o.op = .makeFunc g fs cs) (hf : (fs.toList.map ρ).toArray = vf) (hc : (cs.toList.map ρ).toArray = vc) : (execOp ρ o).run P w = .ok (.value (.func g vf vc)) w := by
  subst hf hc
  rw [map_arr, map_arr]
  simp [execOp, ho, Instr.makeFunc]
theorem r_nilCheck {x : Operand} {a : Addr} (ho : o.op = .nilCheck x) (hx : ρ x = .pointer (some a)) : (execOp ρ o).run P w = .ok (.value (.pointer (some a))) w := by
  simp [execOp, ho, hx, pure, Sem.run]

/-! ### lengths, addresses -/
theorem run_underlying_ {t : TypeId} {d : TypeDesc} (h : P.underlying t = some d) : (underlying t).run P w = .ok d w := by
  simp [underlying, program, h, pure, bind, Sem.bind, Sem.run]
theorem r_len {t : TypeId} {e : TypeId} {x : Operand} {A : Option Addr} {n c : Nat} (ho : o.op = .call { callee := .builtin .len, args := #[x], argTypes := #[t] }) (hx : ρ x = .slice A n c) (ht : P.underlying t = some (.slice e)) :
    (execOp ρ o).run P w = .ok (.value (.int .i64 n)) w := by
  simp [execOp, ho, resolve, invoke, builtin, Builtin.len_, underlying, program, ht, hx, goInt, pure, bind, Sem.bind, Sem.run]
theorem r_lenStr {t : TypeId} {x : Operand} {s : ByteArray} (ho : o.op = .call { callee := .builtin .len, args := #[x], argTypes := #[t] }) (hx : ρ x = .string s) (ht : P.underlying t = some .string) :
    (execOp ρ o).run P w = .ok (.value (.int .i64 s.size)) w := by
  simp [execOp, ho, resolve, invoke, builtin, Builtin.len_, underlying, program, ht, hx, goInt, pure, bind, Sem.bind, Sem.run]
/-- The address of a field. -/
theorem r_fieldAddr {s : TypeId} {x : Operand} {fi sz : Nat} {fs : Array Field} {fd : Field} {b off : Nat} {q : Nat} (ho : o.op = .fieldAddr s x fi) (hx : ρ x = .pointer (some ⟨b, off, none⟩)) (hs : P.underlying s = some (.struct fs)) (hf : fs[fi]? = some fd)
    (hz : ∀ w, (sizeOf fd.type).run P w = .ok (sz + 1) w) (hq : off + fd.offset = q) : (execOp ρ o).run P w = .ok (.value (.pointer (some ⟨b, q, none⟩))) w := by
  subst hq
  have hu := run_underlying_ (w := w) hs
  have ha : (⟨b, off, none⟩ : Addr).add fd.offset = ⟨b, off + fd.offset, none⟩ := by
    unfold Addr.add; split <;> simp_all
  simp only [execOp, ho, hx, Instr.fieldAt, Instr.sureAddr, fieldPlace, Sem.run_bind, Sem.run_pure, Sem.run_pure', Result.andThen_ok, hu, hf, hz, Nat.succ_ne_zero, Nat.add_eq_zero_iff, Nat.one_ne_zero, and_false, if_false, ha]
theorem r_indexAddr {t e : TypeId} {x ix : Operand} {b off n c sz q : Nat} {k : IntKind} {i : Int} (ho : o.op = .indexAddr t x ix) (hx : ρ x = .slice (some ⟨b, off, none⟩) n c) (hi : ρ ix = .int k i) (ht : P.underlying t = some (.slice e))
    (hz : ∀ w, (sizeOf e).run P w = .ok sz w) (h0 : 0 ≤ i) (h1 : i < n) (hq : off + i.toNat * sz = q) : (execOp ρ o).run P w = .ok (.value (.pointer (some ⟨b, q, none⟩))) w := by
  subst hq
  have hu := run_underlying_ (w := w) ht
  have ha : (⟨b, off, none⟩ : Addr).add (i.toNat * sz) = ⟨b, off + i.toNat * sz, none⟩ := by
    unfold Addr.add; split <;> simp_all
  simp only [execOp, ho, hx, hi, Instr.indexAt, asIntOf, Sem.run_bind, Sem.run_pure, Sem.run_pure', Result.andThen_ok, hu, h0, h1, and_self, if_true, hz, ha]
/-! ### loads, stores, new blocks -/
theorem run_load_ {a : Addr} {v : Value} (hc : w.cell? a = some v) : (load a).run P w = .ok v w := by simp [load, Sem.run, hc]
theorem r_load {t : TypeId} {x : Operand} {a : Addr} {v : Value} (ho : o.op = .load t x) (hx : ρ x = .pointer (some a)) (hA : ∀ w, (isAgg t).run P w = .ok false w) (hc : w.cell? a = some v) : (execOp ρ o).run P w = .ok (.value v) w := by
  simp only [execOp, ho, hx, Instr.loadAt, Instr.sureAddr, loadVar, Sem.run_bind, Sem.run_pure, Sem.run_pure', Result.andThen_ok, hA, Bool.false_eq_true, if_false, run_load_ hc]
theorem run_cellsFrom : ∀ (vs : List Value) (a : Addr) (i : Nat) (acc : Array Value), (∀ j u, vs[j]? = some u → w.cell? (a.add (i + j)) = some u) → (loadCellsFrom a i vs.length acc).run P w = .ok (acc ++ vs.toArray) w
  | [], a, i, acc, h => by simp [loadCellsFrom]
  | v :: vs, a, i, acc, h => by
    have h0 : w.cell? (a.add i) = some v := h 0 v rfl
    have ih := run_cellsFrom vs a (i + 1) (acc.push v) (fun j u hj => by rw [show i + 1 + j = i + (j + 1) from by omega]; exact h (j + 1) u hj)
    simp only [List.length_cons, loadCellsFrom, Sem.run_bind, run_load_ h0, Result.andThen_ok]
    rw [ih]
    simp
theorem r_loadK {t : TypeId} {x : Operand} {a : Addr} {k : Nat} {vs : List Value} (ho : o.op = .load t x) (hx : ρ x = .pointer (some a)) (hA : ∀ w, (isAgg t).run P w = .ok true w) (hz : ∀ w, (sizeOf t).run P w = .ok k w) (hk : vs.length = k)
    (hc : ∀ j u, vs[j]? = some u → w.cell? (a.add j) = some u) : (execOp ρ o).run P w = .ok (.value (.agg vs.toArray)) w := by
  subst hk
  have h := run_cellsFrom (P := P) (w := w) vs a 0 #[] (fun j u hj => by rw [Nat.zero_add]; exact hc j u hj)
  simp only [execOp, ho, hx, Instr.loadAt, Instr.sureAddr, loadVar, loadCells, Sem.run_bind, Sem.run_pure, Sem.run_pure', Result.andThen_ok, hA, if_true, hz, h, Array.empty_append]
/-- A block's cells. -/
def Blk (w : World) (g : Nat) (cs : List Value) (t : TypeId) : Prop := w.heap[g]? = some (.cells cs.toArray t (0, 0))
theorem Blk.cell {g : Nat} {cs : List Value} {t : TypeId} (h : Blk w g cs t) (j : Nat) (u : Value) (hj : cs[j]? = some u) : w.cell? ⟨g, j, none⟩ = some u := by
  unfold Blk at h
  simp [World.cell?, h, hj]
theorem Blk.thaw {g : Nat} {cs : List Value} {t : TypeId} (h : Blk w g cs t) (j : Nat) : w.frozen? ⟨g, j, none⟩ = false := by
  unfold Blk at h
  simp [World.frozen?, h]
theorem Blk.lt {g : Nat} {cs : List Value} {t : TypeId} (h : Blk w g cs t) : g < w.heap.size := (Array.getElem?_eq_some_iff.1 h).1
theorem Blk.below {w' : World} {B g : Nat} {cs : List Value} {t : TypeId} (h : Blk w g cs t) (hb : Below B w w') (hg : g < B) : Blk w' g cs t := (hb.block g hg).trans h
theorem Blk.new (w : World) (cs : List Value) (t : TypeId) : Blk (w.alloc (.cells cs.toArray t)) w.heap.size cs t := by
  show (w.heap.push _)[w.heap.size]? = _
  simp
theorem Blk.alloc {g : Nat} {cs : List Value} {t : TypeId} (h : Blk w g cs t) (ob : Obj) : Blk (w.alloc ob) g cs t := by
  have := h.lt
  unfold Blk at *
  rw [Below.heap_alloc _ _ _ this, h]
theorem Blk.set {g : Nat} {cs : List Value} {t : TypeId} (h : Blk w g cs t) (j : Nat) (u : Value) : Blk (w.setCell ⟨g, j, none⟩ u) g (cs.set j u) t := by
  unfold Blk at *
  simp [World.setCell, Array.getElem?_modify, h]
theorem Blk.far {g : Nat} {cs : List Value} {t : TypeId} (h : Blk w g cs t) (p : Addr) (u : Value) (hne : g ≠ p.block) : Blk (w.setCell p u) g cs t := by
  unfold Blk at *
  rw [Below.heap_setCell _ _ _ _ hne, h]
theorem Blk.drew {g : Nat} {cs : List Value} {t : TypeId} (h : Blk w g cs t) : Blk w.drew g cs t := h
theorem run_store_ {a : Addr} {v u : Value} (h1 : v.oneCell' = true) (hc : w.cell? a = some u) (hf : w.frozen? a = false) : (store a v).run P w = .ok () (w.setCell a v) := by
  cases v <;> first | (simp [store, Sem.run, hc, hf]; done) | simp [Value.oneCell'] at h1
theorem cells_one {v : Value} (h1 : v.oneCell' = true) : v.cells = #[v] := by cases v <;> first | rfl | simp [Value.oneCell'] at h1
theorem r_store {t : TypeId} {x y : Operand} {a : Addr} {v u : Value} (ho : o.op = .store t x y) (hx : ρ x = .pointer (some a)) (hy : ρ y = v) (h1 : v.oneCell' = true) (hz : ∀ w, (sizeOf t).run P w = .ok 1 w)
    (hc : w.cell? a = some u) (hf : w.frozen? a = false) : (execOp ρ o).run P w = .ok .skip (w.setCell a v) := by
  have ha : a.add 0 = a := rfl
  simp only [execOp, ho, hx, hy, Instr.storeAt, Instr.sureAddr, storeVar, cells_one h1, storeCells, ha, Sem.run_bind, Sem.run_pure, Sem.run_pure', Result.andThen_ok, hz, List.size_toArray, List.length_cons, List.length_nil, ne_eq, not_true_eq_false, if_false, run_store_ h1 hc hf, Nat.zero_add]
theorem run_newObj_ (ob : Obj) : (newObj ob).run P w = .ok w.heap.size (w.alloc ob) := rfl
theorem r_box {t : TypeId} {x : Operand} {v : Value} {cs : Array Value} (ho : o.op = .box t x) (hx : ρ x = v) (hcs : v.cells = cs) : (execOp ρ o).run P w = .ok (.value (.pointer (some ⟨w.heap.size, 0, none⟩))) (w.alloc (.cells cs t)) := by
  subst hcs; simp only [execOp, ho, hx, Instr.box, newVar, newRow, Sem.run_bind, Sem.run_pure, Sem.run_pure', Result.andThen_ok, run_newObj_]
theorem r_alloc {t : TypeId} {z : Value} {cs : Array Value} (ho : o.op = .alloc t) (hz : ∀ w, (zeroValue t).run P w = .ok z w) (hcs : z.cells = cs) : (execOp ρ o).run P w = .ok (.value (.pointer (some ⟨w.heap.size, 0, none⟩))) (w.alloc (.cells cs t)) := by
  subst hcs; simp only [execOp, ho, Instr.alloc, newVar, newRow, Sem.run_bind, Sem.run_pure, Sem.run_pure', Result.andThen_ok, run_newObj_, hz]

/-- A struct or an array out of its parts. -/
theorem r_build {t : TypeId} {parts : Array (Nat × Operand)} {pv : Array (Nat × Value)} {v : Value} (ho : o.op = .build t parts) (hb : (Instr.build t pv).run P w = .ok v w) (hp : (parts.toList.map fun p => (p.1, ρ p.2)).toArray = pv) : (execOp ρ o).run P w = .ok (.value v) w := by
  have e : (parts.map fun (i, x) => (i, ρ x)) = pv := by rw [← hp, map_arr]
  simp only [execOp, ho, Sem.run_bind, Sem.run_pure, Sem.run_pure', Result.andThen_ok]
  rw [e, hb]
  rfl

/-! ### calls -/
theorem r_call {g : FuncId} {args : Array Operand} {ts : Array TypeId} {vs : Array Value} (ho : o.op = .call { callee := .value (.func g), args := args, argTypes := ts }) (hρ : ρ (.func g) = .func (.func g) #[] #[]) (hvs : (args.toList.map ρ).toArray = vs) (hg : ∀ args w, (callFunc g args).run P w = .ok (.enter g args) w) :
    (execOp ρ o).run P w = .ok (.enter g vs) w := by
  have e : args.map ρ = vs := by rw [← hvs, map_arr]
  simp [execOp, ho, resolve, Deferred.ofValue, hρ, invoke, Sem.run_bind, hg, e]
theorem r_callV {g : FuncId} {fv : Operand} {args : Array Operand} {ts : Array TypeId} {cap : Array Value} {vs : Array Value} (ho : o.op = .call { callee := .value fv, args := args, argTypes := ts }) (hρ : ρ fv = .func (.func g) #[] cap) (hvs : (args.toList.map ρ).toArray ++ cap = vs) (hg : ∀ args w, (callFunc g args).run P w = .ok (.enter g args) w) :
    (execOp ρ o).run P w = .ok (.enter g vs) w := by
  have e : args.map ρ ++ cap = vs := by rw [← hvs, map_arr]
  simp [execOp, ho, resolve, Deferred.ofValue, hρ, invoke, Sem.run_bind, hg, e]

/-! ### results -/
theorem run_loadVar1 {t : TypeId} {a : Addr} {v : Value} (hA : ∀ w, (isAgg t).run P w = .ok false w) (hc : w.cell? a = some v) : (loadVar t a).run P w = .ok v w := by
  simp only [loadVar, Sem.run_bind, Result.andThen_ok, hA, Bool.false_eq_true, if_false, run_load_ hc]
theorem run_loadVarK {t : TypeId} {a : Addr} {k : Nat} {vs : List Value} (hA : ∀ w, (isAgg t).run P w = .ok true w) (hz : ∀ w, (sizeOf t).run P w = .ok k w) (hk : vs.length = k)
    (hc : ∀ j u, vs[j]? = some u → w.cell? (a.add j) = some u) : (loadVar t a).run P w = .ok (.agg vs.toArray) w := by
  subst hk
  have h := run_cellsFrom (P := P) (w := w) vs a 0 #[] (fun j u hj => by rw [Nat.zero_add]; exact hc j u hj)
  simp only [loadVar, loadCells, Sem.run_bind, Sem.run_pure, Sem.run_pure', Result.andThen_ok, hA, if_true, hz, h, Array.empty_append]
theorem Blk.cells {g : Nat} {cs : List Value} {t : TypeId} (h : Blk w g cs t) (j : Nat) (u : Value) (hj : cs[j]? = some u) : w.cell? ((⟨g, 0, none⟩ : Addr).add j) = some u := by
  have e : (⟨g, 0, none⟩ : Addr).add j = ⟨g, j, none⟩ := by unfold Addr.add; split <;> simp_all
  rw [e]
  exact h.cell j u hj
/-- A result's value. -/
def ResV (P : Program) (w : World) (τ : Tm) : ResultVar → Value → Prop
  | .tmp t, v => τ t = v
  | .cell a t, v => ∃ ad, τ a = .pointer (some ad) ∧ (loadVar t ad).run P w = .ok v w
def resRun (tmps : Array Value) : ResultVar → Sem Value
  | .tmp t => pure (tmps.getD t undef)
  | .cell a t => do loadVar t (← asAddr (tmps.getD a undef))
theorem ResV.run_ {a : Act} {n : Nat} {τ : Tm} {r : ResultVar} {v : Value} (ha : Agree a n τ) (h : ResV P w τ r v) : (resRun a.tmps r).run P w = .ok v w := by
  cases r with
  | tmp t => simp only [resRun, Sem.run_pure, ha.at_]; rw [show τ t = v from h]
  | cell b t =>
    obtain ⟨ad, h1, h2⟩ := h
    simp only [resRun, Sem.run_bind, ha.at_, h1, asAddr, Sem.run_pure, Result.andThen_ok, h2]
theorem results_eq {fn : Func} {tmps : Array Value} : results fn tmps = (do
    let vs ← fn.results.mapM (resRun tmps)
    pure (if h : vs.size = 1 then vs[0] else .tuple vs)) := by
  unfold results
  congr 1
section
variable {f : FuncId} {n : Nat} {R : Ending → World → Prop} {k : List Item} {τ : Tm} {fn : Func} {r1 r2 r3 : ResultVar} {v1 v2 v3 : Value}
theorem res0 (hr : fn.results = #[]) {a : Act} (ha : Agree a n τ) : (results fn a.tmps).run P w = .ok (.tuple #[]) w := by
  rw [results_eq, hr]
  simp [Array.mapM_eq_mapM_toList]
theorem res1 (hr : fn.results = #[r1]) (h1 : ResV P w τ r1 v1) {a : Act} (ha : Agree a n τ) : (results fn a.tmps).run P w = .ok v1 w := by
  rw [results_eq, hr]
  simp [Array.mapM_eq_mapM_toList, h1.run_ ha]
theorem res2 (hr : fn.results = #[r1, r2]) (h1 : ResV P w τ r1 v1) (h2 : ResV P w τ r2 v2) {a : Act} (ha : Agree a n τ) : (results fn a.tmps).run P w = .ok (.tuple #[v1, v2]) w := by
  rw [results_eq, hr]
  simp [Array.mapM_eq_mapM_toList, h1.run_ ha, h2.run_ ha]
theorem res3 (hr : fn.results = #[r1, r2, r3]) (h1 : ResV P w τ r1 v1) (h2 : ResV P w τ r2 v2) (h3 : ResV P w τ r3 v3) {a : Act} (ha : Agree a n τ) : (results fn a.tmps).run P w = .ok (.tuple #[v1, v2, v3]) w := by
  rw [results_eq, hr]
  simp [Array.mapM_eq_mapM_toList, h1.run_ ha, h2.run_ ha, h3.run_ ha]
theorem Run.ret0 (hf : P.funcs[f]? = some fn) (hr : fn.results = #[]) (h : R (.returned (.tuple #[])) w) : Run P f n R (.code .ret :: k) τ w := Run.ret_ hf (fun _ ha => res0 hr ha) h
theorem Run.ret1 (hf : P.funcs[f]? = some fn) (hr : fn.results = #[r1]) (h1 : ResV P w τ r1 v1) (h : R (.returned v1) w) : Run P f n R (.code .ret :: k) τ w := Run.ret_ hf (fun _ ha => res1 hr h1 ha) h
theorem Run.ret2 (hf : P.funcs[f]? = some fn) (hr : fn.results = #[r1, r2]) (h1 : ResV P w τ r1 v1) (h2 : ResV P w τ r2 v2) (h : R (.returned (.tuple #[v1, v2])) w) : Run P f n R (.code .ret :: k) τ w := Run.ret_ hf (fun _ ha => res2 hr h1 h2 ha) h
theorem Run.ret3 (hf : P.funcs[f]? = some fn) (hr : fn.results = #[r1, r2, r3]) (h1 : ResV P w τ r1 v1) (h2 : ResV P w τ r2 v2) (h3 : ResV P w τ r3 v3) (h : R (.returned (.tuple #[v1, v2, v3])) w) : Run P f n R (.code .ret :: k) τ w := Run.ret_ hf (fun _ ha => res3 hr h1 h2 h3 ha) h
theorem Run.end0 (hf : P.funcs[f]? = some fn) (hr : fn.results = #[]) (h : R (.returned (.tuple #[])) w) : Run P f n R [] τ w := Run.end_ hf (fun _ ha => res0 hr ha) h
end
end
end Go.Proofs.Ytojpimpfpjhflaa.Fw
