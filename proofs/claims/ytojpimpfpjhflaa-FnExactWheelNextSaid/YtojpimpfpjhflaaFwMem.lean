/- Memory for the walk: blocks, rows of the call's own, and what stays where one of them is written. -/
import Derived.Test.YtojpimpfpjhflaaFwOps
import Derived.Maps.AppendAt
import Derived.Laws.OwnMore
namespace Go.Proofs.Ytojpimpfpjhflaa.Fw
open Go Go.RowKit
set_option linter.unusedVariables false
set_option linter.unusedSimpArgs false

/-! ### what has changed: blocks of S alone -/
structure Mut (S : Nat → Prop) (w w' : World) : Prop where
  os : w'.os = w.os
  tape : w'.tape = w.tape
  output : w'.output = w.output
  size : w.heap.size ≤ w'.heap.size
  block : ∀ k, k < w.heap.size → ¬ S k → w'.heap[k]? = w.heap[k]?
section
variable {S S' : Nat → Prop} {w w' w2 : World}
theorem Mut.refl (w : World) : Mut S w w := ⟨rfl, rfl, rfl, Nat.le_refl _, fun _ _ _ => rfl⟩
theorem Mut.mono (h : Mut S w w') (hs : ∀ k, k < w.heap.size → S k → S' k) : Mut S' w w' := ⟨h.os, h.tape, h.output, h.size, fun k hk hn => h.block k hk fun h' => hn (hs k hk h')⟩
theorem Mut.trans (h : Mut S w w') (h2 : Mut S w' w2) : Mut S w w2 :=
  ⟨h2.os.trans h.os, h2.tape.trans h.tape, h2.output.trans h.output, Nat.le_trans h.size h2.size, fun k hk hn => (h2.block k (Nat.lt_of_lt_of_le hk h.size) hn).trans (h.block k hk hn)⟩
theorem Mut.of_below (h : Below w.heap.size w w') : Mut (fun _ => False) w w' := ⟨h.os, h.tape, h.output, h.size, fun k hk _ => h.block k hk⟩
theorem Mut.below (h : Mut S w w') {B : Nat} (hB : B ≤ w.heap.size) (hs : ∀ k, S k → B ≤ k) : Below B w w' :=
  ⟨h.os, h.tape, h.output, h.size, fun k hk => h.block k (by omega) fun h' => by have := hs k h'; omega⟩
theorem Mut.of_alloc (w : World) (ob : Obj) : Mut (fun _ => False) w (w.alloc ob) := Mut.of_below ((Below.refl _ _).alloc (Nat.le_refl _) _)
theorem Mut.of_set (w : World) (p : Addr) (u : Value) : Mut (fun k => k = p.block) w (w.setCell p u) :=
  ⟨rfl, rfl, rfl, by simp [World.setCell], fun k hk hn => Below.heap_setCell _ _ _ _ hn⟩
theorem Mut.of_grown {row : Option Nat} (h : w.grownBy w' row) : Mut (fun k => some k = row) w w' := ⟨h.os, h.tape, h.output, h.size, fun k hk hn => h.block k hk hn⟩
theorem Below.step {B : Nat} {w0 : World} (h : Below B w0 w) (hm : Mut S w w') (hB : B ≤ w.heap.size) (hs : ∀ k, S k → B ≤ k) : Below B w0 w' := h.trans (hm.below hB hs)
theorem Blk.mut {g : Nat} {cs : List Value} {t : TypeId} (h : Blk w g cs t) (hm : Mut S w w') (hg : ¬ S g) : Blk w' g cs t := (hm.block g h.lt hg).trans h
section
variable {base n size : Nat} {e : TypeId} {v : Value} {xs : List Value}
theorem own_mut (h : w.ownsRow base e size v n xs) (hm : Mut S w w') (hg : ∀ k, v.ownBlock = some k → ¬ S k) : w'.ownsRow base e size v n xs := by
  obtain ⟨h1, h2⟩ := h
  refine ⟨h1, ?_⟩
  rcases h2 with h2 | ⟨g, cap, cur, rfl, hg2, hh, r⟩
  · exact .inl h2
  · exact .inr ⟨g, cap, cur, rfl, hg2, (hm.block g (Array.getElem?_eq_some_iff.1 hh).1 (hg g rfl)).trans hh, r⟩
theorem own_slice_ (h : w.ownsRow base e size v n xs) : ∃ A c, v = .slice A n c ∧ n ≤ c := by
  rcases h.2 with ⟨rfl, rfl⟩ | ⟨g, cap, cur, rfl, _, _, h3, _⟩
  · exact ⟨none, 0, rfl, Nat.le_refl _⟩
  · exact ⟨_, cap, rfl, h3⟩
theorem own_bound (h : w.ownsRow base e size v n xs) : n ≤ 9223372036854775807 := by
  rcases h.2 with ⟨_, rfl⟩ | ⟨g, cap, cur, rfl, _, _, h3, h4, _⟩
  · omega
  · simp only [maxLen] at h4; omega
theorem own_at (h : w.ownsRow base e size v n xs) (hn : 0 < n) : ∃ g c, v = .slice (some ⟨g, 0, none⟩) n c ∧ n ≤ c ∧ base ≤ g ∧ g < w.heap.size ∧ ∀ j u, xs[j]? = some u → w.cell? ⟨g, j, none⟩ = some u := by
  rcases h.2 with ⟨rfl, rfl⟩ | ⟨g, cap, cur, rfl, hb, hh, h3, h4, h5, h6⟩
  · omega
  · refine ⟨g, cap, rfl, h3, hb, (Array.getElem?_eq_some_iff.1 hh).1, fun j u hj => ?_⟩
    rw [← h6, List.getElem?_take] at hj
    split at hj
    · simpa [World.cell?, hh] using hj
    · simp at hj
end
end

/-! ### the walk's rules over them -/
section
variable {P : Program} {f : FuncId} {n : Nat} {R : Ending → World → Prop} {k : List Item} {τ : Tm} {w : World} {ops : Array Oper} {i : Nat} {rest : List Nat} {o : Oper}
theorem WO.box_ (d : Nat) {t : TypeId} {x : Operand} {cs : List Value} (ho : ops[i]? = some o) (hk : okOp n ops τ o d true = true) (hop : o.op = .box t x) (hx : (ev τ x).cells = cs.toArray)
    (h : ∀ g w', g = w.heap.size → w'.heap.size = g + 1 → Blk w' g cs t → Mut (fun _ => False) w w' → WO P f n R ops k rest (upd τ d (.pointer (some ⟨g, 0, none⟩))) w') : WO P f n R ops k (i :: rest) τ w :=
  WO.v d ho hk (r_box hop rfl hx) (h _ _ rfl (by simp) (Blk.new w cs t) (Mut.of_alloc w _))
theorem WO.alloc_ (d : Nat) {t : TypeId} {z : Value} {cs : List Value} (ho : ops[i]? = some o) (hk : okOp n ops τ o d true = true) (hop : o.op = .alloc t) (hz : ∀ w, (zeroValue t).run P w = .ok z w) (hx : z.cells = cs.toArray)
    (h : ∀ g w', g = w.heap.size → w'.heap.size = g + 1 → Blk w' g cs t → Mut (fun _ => False) w w' → WO P f n R ops k rest (upd τ d (.pointer (some ⟨g, 0, none⟩))) w') : WO P f n R ops k (i :: rest) τ w :=
  WO.v d ho hk (r_alloc hop hz hx) (h _ _ rfl (by simp) (Blk.new w cs t) (Mut.of_alloc w _))
theorem WO.store_ {t : TypeId} {x y : Operand} {g j : Nat} {cs : List Value} {t' : TypeId} {v : Value} (ho : ops[i]? = some o) (hk : okOp0 ops τ o = true) (hop : o.op = .store t x y) (hx : ev τ x = .pointer (some ⟨g, j, none⟩)) (hy : ev τ y = v) (h1 : v.oneCell' = true)
    (hz : ∀ w, (sizeOf t).run P w = .ok 1 w) (hb : Blk w g cs t') (hj : j < cs.length)
    (h : ∀ w', w'.heap.size = w.heap.size → Blk w' g (cs.set j v) t' → Mut (fun k => k = g) w w' → WO P f n R ops k rest τ w') : WO P f n R ops k (i :: rest) τ w :=
  WO.u ho hk (r_store hop hx hy h1 hz (hb.cell j _ (List.getElem?_eq_getElem hj)) (hb.thaw j)) (h _ (by simp [World.setCell]) (hb.set j v) (Mut.of_set w ⟨g, j, none⟩ v))
theorem run_storeCells (g : Nat) : ∀ (vs : List Value) (pre old : List Value) (t : TypeId) (w : World), Blk w g (pre ++ old) t → vs.length ≤ old.length → (∀ u ∈ vs, u.oneCell' = true) →
    ∃ w', (storeCells ⟨g, 0, none⟩ vs pre.length).run P w = .ok () w' ∧ w'.heap.size = w.heap.size ∧ Blk w' g (pre ++ vs ++ old.drop vs.length) t ∧ Mut (fun k => k = g) w w'
  | [], pre, old, t, w, hb, _, _ => ⟨w, by simp [storeCells], rfl, by simpa using hb, Mut.refl w⟩
  | v :: vs, pre, [], t, w, hb, hl, _ => by simp at hl
  | v :: vs, pre, u :: old, t, w, hb, hl, h1 => by
    have ha : (⟨g, 0, none⟩ : Addr).add pre.length = ⟨g, pre.length, none⟩ := by unfold Addr.add; split <;> simp_all
    have hc : w.cell? ⟨g, pre.length, none⟩ = some u := hb.cell _ _ (by simp)
    have hb1 := hb.set pre.length v
    rw [show (pre ++ u :: old).set pre.length v = (pre ++ [v]) ++ old by simp] at hb1
    obtain ⟨w', hr, hs, hb2, hm⟩ := run_storeCells g vs (pre ++ [v]) old t _ hb1 (by simpa using hl) (fun x hx => h1 x (List.mem_cons_of_mem _ hx))
    refine ⟨w', ?_, hs.trans (by simp [World.setCell]), by simpa using hb2, (Mut.of_set w ⟨g, pre.length, none⟩ v).trans hm⟩
    simp only [storeCells, Sem.run_bind, ha, run_store_ (h1 v List.mem_cons_self) hc (hb.thaw _), Result.andThen_ok]
    simpa using hr
theorem WO.storeK_ {t : TypeId} {x y : Operand} {g sz : Nat} {cs vs : List Value} {t' : TypeId} {v : Value} (ho : ops[i]? = some o) (hk : okOp0 ops τ o = true) (hop : o.op = .store t x y) (hx : ev τ x = .pointer (some ⟨g, 0, none⟩)) (hy : ev τ y = v) (hv : v.cells = vs.toArray)
    (h1 : ∀ u ∈ vs, u.oneCell' = true) (hz : ∀ w, (sizeOf t).run P w = .ok sz w) (hsz : vs.length = sz) (hb : Blk w g cs t') (hj : cs.length = sz)
    (h : ∀ w', w'.heap.size = w.heap.size → Blk w' g vs t' → Mut (fun k => k = g) w w' → WO P f n R ops k rest τ w') : WO P f n R ops k (i :: rest) τ w := by
  obtain ⟨w', hr, hs, hb2, hm⟩ := run_storeCells (P := P) g vs [] cs t' w hb (by omega) h1
  rw [List.drop_eq_nil_of_le (by omega)] at hb2
  refine WO.u ho hk ?_ (h w' hs (by simpa using hb2) hm)
  have hrun : (storeCells ⟨g, 0, none⟩ vs).run P w = .ok () w' := hr
  simp only [execOp, hop, hx, hy, Instr.storeAt, Instr.sureAddr, storeVar, hv, Sem.run_bind, Sem.run_pure, Sem.run_pure', Result.andThen_ok, hz, List.size_toArray, hsz, ne_eq, not_true_eq_false, if_false, hrun]
/-- append of a row that lies anywhere to a row of the call's own. -/
theorem WO.append_ (d : Nat) {t ty e : TypeId} {inf : TypeInfo} {z : Value} {size bytes base m nn c : Nat} {s x : Operand} {v : Value} {xs news : List Value} {A : Option Addr}
    (ho : ops[i]? = some o) (hk : okOp n ops τ o d true = true) (hop : o.op = .call { callee := .builtin .append, args := #[s, x], argTypes := #[t, t] })
    (ht : P.underlying t = some (.slice e)) (hi : P.info? e = some inf) (hz : inf.zero = some z) (hsize : inf.size = size) (hby : inf.bytes = bytes) (hzs : z.cells.size = size) (hsz : 0 < size)
    (hs : ev τ s = v) (hx : ev τ x = .slice A m c) (hown : w.ownsRow base e size v nn xs) (hl : news.length = m * size) (hA : A = none → m = 0) (hnews : ∀ ad, A = some ad → ∀ j u, news[j]? = some u → w.cell? (ad.add j) = some u)
    (h1 : ∀ u ∈ news, u.oneCell' = true) (hbytes : (nn + m) * bytes ≤ 140737488355328) (hlen : nn + m ≤ 9223372036854775807) (hbase : base ≤ w.heap.size)
    (h : ∀ v' w', w'.ownsRow base e size v' (nn + m) (xs ++ news) → Mut (fun k => some k = v.ownBlock) w w' → (v'.ownBlock = v.ownBlock ∨ v'.ownBlock = some w.heap.size) → WO P f n R ops k rest (upd τ d v') w') : WO P f n R ops k (i :: rest) τ w := by
  have fin : ∀ v' w', (Builtin.append_ #[t, t] o.type #[v, .slice A m c]).run P w = .ok v' w' → (execOp (ev τ) o).run P w = .ok (.value v') w' := fun v' w' hr => by
    simp only [execOp, hop, resolve, invoke, builtin, Sem.run_bind, Sem.run_pure, Sem.run_pure', Result.andThen_ok, List.map_toArray, List.map_cons, List.map_nil, hs, hx, hr]
  cases A with
  | none =>
    have hm := hA rfl
    subst hm
    have hn : news = [] := List.eq_nil_of_length_eq_zero (by simpa using hl)
    subst hn
    refine WO.v d ho hk (fin v w ?_) (h v w (by simpa using hown) (Mut.refl w) (.inl rfl))
    rcases hown.2 with ⟨rfl, h0⟩ | ⟨g, cap, cur, rfl, _, _, hnc, _⟩
    · simp [Builtin.append_, run_underlying ht, sizeOf, typeInfo, hi, Builtin.lenOf, Builtin.firstCells]
    · simp [Builtin.append_, run_underlying ht, sizeOf, typeInfo, hi, Builtin.lenOf, Builtin.firstCells, hnc, storeCells]
  | some ad =>
    obtain ⟨v', w', hr, h2, h3, _, h5⟩ := run_append_own_at (P := P) w base t o.type e inf z size bytes ht hi hz hsize hby hzs hsz v nn xs hown ad m c news hl (hnews ad rfl) h1 (by simp only [maxLen]; omega) hbytes hbase
    exact WO.v d ho hk (fin v' w' hr) (h v' w' h2 (Mut.of_grown h3) h5)
/-- A call of a function by its number. -/
theorem WO.call_ (d : Nat) {g : FuncId} {args : Array Operand} {ts : Array TypeId} {vs : Array Value} {R' : Ending → World → Prop} (ho : ops[i]? = some o) (hk : okOp n ops τ o d true = true) (he : ∀ args w, (callFunc g args).run P w = .ok (.enter g args) w) (hc : Calls P g vs w R')
    (hop : o.op = .call { callee := .value (.func g), args := args, argTypes := ts }) (hvs : (args.toList.map (ev τ)).toArray = vs)
    (h : ∀ e w2, R' e w2 → ∃ v, e = .returned v ∧ WO P f n R ops k rest (upd τ d v) w2) : WO P f n R ops k (i :: rest) τ w :=
  WO.c d ho hk hc (r_call hop rfl hvs he) h
theorem r_extract {x : Operand} {j : Nat} {vs : Array Value} {v : Value} {ρ : Operand → Value} (ho : o.op = .extract x j) (hx : ρ x = .tuple vs) (hv : vs[j]? = some v) : (execOp ρ o).run P w = .ok (.value v) w := by
  simp [execOp, ho, hx, Instr.extract, hv]
end
end Go.Proofs.Ytojpimpfpjhflaa.Fw
