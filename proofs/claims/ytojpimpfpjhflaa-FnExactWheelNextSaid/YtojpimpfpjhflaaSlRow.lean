/- Rows that are owned, element by element: kinds with footprints (over the printed kinds Kd), and the rules over rows. -/
import Derived.Test.YtojpimpfpjhflaaSl
namespace Go.Proofs.Ytojpimpfpjhflaa.Fw
open Go Go.RowKit Go.Proofs.YtojpimpfpjhflaaW.PrintWords
set_option linter.unusedVariables false
set_option linter.unusedSimpArgs false

/-- A kind that is owned: a value's cells, and the blocks of its own. -/
structure Ow {α : Type} (d : Kd α) where
  own : World → Fp → α → List Value → Prop
  stab : ∀ {w w' : World} {S : Fp} {x : α} {vs : List Value}, own w S x vs → (∀ k, S k → w'.heap[k]? = w.heap[k]?) → own w' S x vs
  mono : ∀ {w : World} {S S' : Fp} {x : α} {vs : List Value}, own w S x vs → (∀ k, S k → S' k) → own w S' x vs
  toM : ∀ {w : World} {S : Fp} {x : α} {vs : List Value} {base : Nat}, own w S x vs → (∀ k, S k → base ≤ k) → d.M w base S x vs
section
variable {α : Type} {d : Kd α} {o : Ow d} {w w' : World} {S S' : Fp} {x : α} {vs : List Value}
theorem Ow.toK (o : Ow d) (h : o.own w S x vs) : d.K w x vs := d.K_of_M (o.toM h (fun _ _ => Nat.zero_le _))
theorem Ow.len (o : Ow d) (h : o.own w S x vs) : vs.length = d.sz := d.K_len (o.toK h)
theorem Ow.one (o : Ow d) (h : o.own w S x vs) : ∀ u ∈ vs, u.oneCell' = true := d.K_one (o.toK h)
/-- Nothing of it lies elsewhere: reading it is having it. -/
def Flat (o : Ow d) : Prop := ∀ {w : World} {x : α} {vs : List Value}, d.K w x vs → o.own w Em x vs
def bigs (o : Ow d) (w : World) : Fp → List α → List (List Value) → Prop
  | _, [], [] => True
  | S, x :: xs, vs :: vss => ∃ S1 S2 : Fp, o.own w S1 x vs ∧ bigs o w S2 xs vss ∧ (∀ k, S1 k → S2 k → False) ∧ (∀ k, S1 k → S k) ∧ (∀ k, S2 k → S k)
  | _, _, _ => False
/-- All but the i-th. -/
def bigsH (o : Ow d) (w : World) : Fp → Nat → List α → List (List Value) → Prop
  | S, 0, x :: xs, vs :: vss => vs.length = d.sz ∧ bigs o w S xs vss
  | S, i + 1, x :: xs, vs :: vss => ∃ S1 S2 : Fp, o.own w S1 x vs ∧ bigsH o w S2 i xs vss ∧ (∀ k, S1 k → S2 k → False) ∧ (∀ k, S1 k → S k) ∧ (∀ k, S2 k → S k)
  | _, _, _, _ => False
theorem bigs_stab : ∀ {xs : List α} {vss : List (List Value)} {S : Fp}, bigs o w S xs vss → (∀ k, S k → w'.heap[k]? = w.heap[k]?) → bigs o w' S xs vss
  | [], [], _, _, _ => trivial
  | x :: xs, vs :: vss, S, ⟨S1, S2, h1, h2, h3, h4, h5⟩, h => ⟨S1, S2, o.stab h1 fun k hk => h k (h4 k hk), bigs_stab h2 fun k hk => h k (h5 k hk), h3, h4, h5⟩
theorem bigs_mono : ∀ {xs : List α} {vss : List (List Value)} {S S' : Fp}, bigs o w S xs vss → (∀ k, S k → S' k) → bigs o w S' xs vss
  | [], [], _, _, _, _ => trivial
  | x :: xs, vs :: vss, S, S', ⟨S1, S2, h1, h2, h3, h4, h5⟩, h => ⟨S1, S2, h1, h2, h3, fun k hk => h k (h4 k hk), fun k hk => h k (h5 k hk)⟩
theorem bigsH_stab : ∀ {i : Nat} {xs : List α} {vss : List (List Value)} {S : Fp}, bigsH o w S i xs vss → (∀ k, S k → w'.heap[k]? = w.heap[k]?) → bigsH o w' S i xs vss
  | 0, x :: xs, vs :: vss, _, ⟨h1, h2⟩, h => ⟨h1, bigs_stab h2 h⟩
  | i + 1, x :: xs, vs :: vss, S, ⟨S1, S2, h1, h2, h3, h4, h5⟩, h => ⟨S1, S2, o.stab h1 fun k hk => h k (h4 k hk), bigsH_stab h2 fun k hk => h k (h5 k hk), h3, h4, h5⟩
theorem bigsH_mono : ∀ {i : Nat} {xs : List α} {vss : List (List Value)} {S S' : Fp}, bigsH o w S i xs vss → (∀ k, S k → S' k) → bigsH o w S' i xs vss
  | 0, x :: xs, vs :: vss, _, _, ⟨h1, h2⟩, h => ⟨h1, bigs_mono h2 h⟩
  | i + 1, x :: xs, vs :: vss, S, S', ⟨S1, S2, h1, h2, h3, h4, h5⟩, h => ⟨S1, S2, h1, h2, h3, fun k hk => h k (h4 k hk), fun k hk => h k (h5 k hk)⟩
theorem bigs_len : ∀ {xs : List α} {vss : List (List Value)} {S : Fp}, bigs o w S xs vss → vss.length = xs.length ∧ ∀ vs ∈ vss, vs.length = d.sz
  | [], [], _, _ => ⟨rfl, fun _ h => absurd h List.not_mem_nil⟩
  | x :: xs, vs :: vss, S, ⟨S1, S2, h1, h2, h3, h4, h5⟩ => by
    obtain ⟨e1, e2⟩ := bigs_len h2
    exact ⟨by simp [e1], fun u hu => (List.mem_cons.1 hu).elim (fun e => by rw [e]; exact o.len h1) (e2 u)⟩
theorem bigsH_len : ∀ {i : Nat} {xs : List α} {vss : List (List Value)} {S : Fp}, bigsH o w S i xs vss → vss.length = xs.length ∧ ∀ vs ∈ vss, vs.length = d.sz
  | 0, x :: xs, vs :: vss, S, ⟨h1, h2⟩ => by
    obtain ⟨e1, e2⟩ := bigs_len h2
    exact ⟨by simp [e1], fun u hu => (List.mem_cons.1 hu).elim (fun e => by rw [e]; exact h1) (e2 u)⟩
  | i + 1, x :: xs, vs :: vss, S, ⟨S1, S2, h1, h2, h3, h4, h5⟩ => by
    obtain ⟨e1, e2⟩ := bigsH_len h2
    exact ⟨by simp [e1], fun u hu => (List.mem_cons.1 hu).elim (fun e => by rw [e]; exact o.len h1) (e2 u)⟩
theorem bigs_app : ∀ {xs ys : List α} {vss uss : List (List Value)} {S1 S2 S : Fp}, bigs o w S1 xs vss → bigs o w S2 ys uss → (∀ k, S1 k → S2 k → False) → (∀ k, S1 k → S k) → (∀ k, S2 k → S k) → bigs o w S (xs ++ ys) (vss ++ uss)
  | [], ys, [], uss, S1, S2, S, _, h2, _, _, h5 => bigs_mono h2 h5
  | x :: xs, ys, vs :: vss, uss, S1, S2, S, ⟨T1, T2, g1, g2, g3, g4, g5⟩, h2, h3, h4, h5 =>
    ⟨T1, fun k => T2 k ∨ S2 k, g1, bigs_app g2 h2 (fun k a b => h3 k (g5 k a) b) (fun k a => .inl a) (fun k a => .inr a), fun k a b => b.elim (g3 k a) (h3 k (g4 k a)), fun k a => h4 k (g4 k a), fun k a => a.elim (fun a => h4 k (g5 k a)) (h5 k)⟩
theorem bigs_flat (hf : Flat o) : ∀ {xs : List α} {vss : List (List Value)} {S : Fp}, vss.length = xs.length → (∀ (j : Nat) (x : α) (vs : List Value), xs[j]? = some x → vss[j]? = some vs → d.K w x vs) → bigs o w S xs vss
  | [], [], _, _, _ => trivial
  | x :: xs, vs :: vss, S, h, hk => ⟨Em, S, hf (hk 0 x vs rfl rfl), bigs_flat hf (by simpa using h) (fun j y us hy hu => hk (j + 1) y us hy hu), fun _ h => h.elim, fun _ h => h.elim, fun _ h => h⟩
theorem bigs_at : ∀ {xs : List α} {vss : List (List Value)} {S : Fp} {j : Nat} {vs : List Value} {x : α}, bigs o w S xs vss → xs[j]? = some x → vss[j]? = some vs → ∃ S1 : Fp, o.own w S1 x vs ∧ ∀ k, S1 k → S k
  | x :: xs, vs :: vss, S, 0, us, y, ⟨S1, S2, h1, h2, h3, h4, h5⟩, hx, hu => by
    simp at hx hu
    subst hx hu
    exact ⟨S1, h1, h4⟩
  | x :: xs, vs :: vss, S, j + 1, us, y, ⟨S1, S2, h1, h2, h3, h4, h5⟩, hx, hu => by
    obtain ⟨T, g1, g2⟩ := bigs_at h2 (by simpa using hx) (by simpa using hu)
    exact ⟨T, g1, fun k hk => h5 k (g2 k hk)⟩
theorem bigs_take : ∀ {xs : List α} {vss : List (List Value)} {S : Fp} {i : Nat} {x : α}, bigs o w S xs vss → xs[i]? = some x →
    ∃ (vs : List Value) (S1 S2 : Fp), vss[i]? = some vs ∧ o.own w S1 x vs ∧ bigsH o w S2 i xs vss ∧ (∀ k, S1 k → S2 k → False) ∧ (∀ k, S1 k → S k) ∧ (∀ k, S2 k → S k)
  | x :: xs, vs :: vss, S, 0, y, ⟨S1, S2, h1, h2, h3, h4, h5⟩, hx => by
    simp at hx
    subst hx
    exact ⟨vs, S1, S2, rfl, h1, ⟨o.len h1, h2⟩, h3, h4, h5⟩
  | x :: xs, vs :: vss, S, i + 1, y, ⟨S1, S2, h1, h2, h3, h4, h5⟩, hx => by
    obtain ⟨us, T1, T2, g0, g1, g2, g3, g4, g5⟩ := bigs_take (i := i) h2 (by simpa using hx)
    exact ⟨us, T1, fun k => S1 k ∨ T2 k, by simpa using g0, g1, ⟨S1, T2, h1, g2, fun k a b => h3 k a (g5 k b), fun k a => .inl a, fun k a => .inr a⟩, fun k a b => b.elim (fun b => h3 k b (g4 k a)) (g3 k a), fun k a => h5 k (g4 k a), fun k a => a.elim (h4 k) (fun a => h5 k (g5 k a))⟩
theorem bigs_back : ∀ {xs : List α} {vss : List (List Value)} {S1 S2 S : Fp} {i : Nat} {x : α} {vs : List Value}, bigsH o w S2 i xs vss → o.own w S1 x vs → (∀ k, S1 k → S2 k → False) → (∀ k, S1 k → S k) → (∀ k, S2 k → S k) → bigs o w S (xs.set i x) (vss.set i vs)
  | y :: xs, us :: vss, S1, S2, S, 0, x, vs, ⟨_, h2⟩, h1, h3, h4, h5 => ⟨S1, S2, h1, h2, h3, h4, h5⟩
  | y :: xs, us :: vss, S1, S2, S, i + 1, x, vs, ⟨T1, T2, g1, g2, g3, g4, g5⟩, h1, h3, h4, h5 =>
    ⟨T1, fun k => S1 k ∨ T2 k, g1, bigs_back g2 h1 (fun k a b => h3 k a (g5 k b)) (fun k a => .inl a) (fun k a => .inr a), fun k a b => b.elim (fun b => h3 k b (g4 k a)) (g3 k a), fun k a => h5 k (g4 k a), fun k a => a.elim (h4 k) (fun a => h5 k (g5 k a))⟩
  | [], vss, S1, S2, S, i, x, vs, h, _, _, _, _ => by cases i <;> cases vss <;> exact h.elim
  | y :: xs, [], S1, S2, S, i, x, vs, h, _, _, _, _ => by cases i <;> exact h.elim
/-- The i-th element's cells among all. -/
theorem flat_at : ∀ {vss : List (List Value)} {s : Nat}, (∀ vs ∈ vss, vs.length = s) → ∀ {i : Nat} {vs : List Value}, vss[i]? = some vs → ∀ j, j < s → vss.flatten[i * s + j]? = vs[j]?
  | us :: vss, s, h, 0, vs, hi, j, hj => by
    simp at hi
    subst hi
    rw [List.flatten_cons, List.getElem?_append_left (by rw [h _ List.mem_cons_self]; omega)]
    simp
  | us :: vss, s, h, i + 1, vs, hi, j, hj => by
    have e := h _ (List.mem_cons_self (a := us) (l := vss))
    rw [List.flatten_cons, List.getElem?_append_right (by rw [e, Nat.add_mul]; omega), e, show (i + 1) * s + j - s = i * s + j by rw [Nat.add_mul]; omega]
    exact flat_at (fun v hv => h v (List.mem_cons_of_mem _ hv)) (by simpa using hi) j hj
theorem flat_set : ∀ {vss : List (List Value)} {s : Nat}, (∀ vs ∈ vss, vs.length = s) → ∀ {i : Nat} {vs : List Value}, vss[i]? = some vs → ∀ j u, j < s → vss.flatten.set (i * s + j) u = (vss.set i (vs.set j u)).flatten
  | us :: vss, s, h, 0, vs, hi, j, u, hj => by
    simp at hi
    subst hi
    have e := h _ (List.mem_cons_self (a := us) (l := vss))
    simp only [List.flatten_cons, List.set_cons_zero, Nat.zero_mul, Nat.zero_add]
    rw [List.set_append_left _ _ (by omega)]
  | us :: vss, s, h, i + 1, vs, hi, j, u, hj => by
    have e := h _ (List.mem_cons_self (a := us) (l := vss))
    simp only [List.flatten_cons, List.set_cons_succ]
    rw [List.set_append_right _ _ (by rw [e, Nat.add_mul]; omega), e, show (i + 1) * s + j - s = i * s + j by rw [Nat.add_mul]; omega]
    rw [flat_set (fun v hv => h v (List.mem_cons_of_mem _ hv)) (by simpa using hi) j u hj]
theorem flat_len : ∀ {vss : List (List Value)} {s : Nat}, (∀ vs ∈ vss, vs.length = s) → vss.flatten.length = vss.length * s
  | [], s, _ => by simp
  | us :: vss, s, h => by
    have e := h _ (List.mem_cons_self (a := us) (l := vss))
    rw [List.flatten_cons, List.length_append, flat_len (fun v hv => h v (List.mem_cons_of_mem _ hv)), e, List.length_cons, Nat.add_mul]
    omega
end

/-! ### rows -/
section
variable {α : Type} {d : Kd α} {o : Ow d} {w w' : World} {S S' : Fp} {e : Nat} {v : Value} {xs : List α}
def rowP (o : Ow d) (e : Nat) (w : World) (S : Fp) (v : Value) (xs : List α) : Prop :=
  ∃ vss : List (List Value), (∀ k, v.ownBlock = some k → S k) ∧ w.ownsRow 0 e d.sz v xs.length vss.flatten ∧ bigs o w (fun k => S k ∧ some k ≠ v.ownBlock) xs vss
theorem rowP_stab (h : rowP o e w S v xs) (hk : ∀ k, S k → w'.heap[k]? = w.heap[k]?) : rowP o e w' S v xs := by
  obtain ⟨vss, h1, h2, h3⟩ := h
  exact ⟨vss, h1, own_move h2 (fun k hk' => hk k (h1 k hk')), bigs_stab h3 fun k hk' => hk k hk'.1⟩
theorem rowP_mono (h : rowP o e w S v xs) (hk : ∀ k, S k → S' k) : rowP o e w S' v xs := by
  obtain ⟨vss, h1, h2, h3⟩ := h
  exact ⟨vss, fun k hk' => hk k (h1 k hk'), h2, bigs_mono h3 fun k hk' => ⟨hk k hk'.1, hk'.2⟩⟩
theorem rowP_R (h : rowP o e w S v xs) {base : Nat} (hb : ∀ k, S k → base ≤ k) : d.R e w base S v xs := by
  obtain ⟨vss, h1, h2, h3⟩ := h
  obtain ⟨hl, hs⟩ := bigs_len h3
  refine ⟨h1, vss.flatten, ?_, h2.1, fun j p hj => ?_⟩
  · obtain ⟨a, b⟩ := h2
    refine ⟨a, b.imp (fun h => h) ?_⟩
    rintro ⟨g, cap, cur, rfl, hg, r⟩
    exact ⟨g, cap, cur, rfl, hb g (h1 g rfl), r⟩
  · have hjl : j < xs.length := (List.getElem?_eq_some_iff.1 hj).1
    obtain ⟨vs, hv⟩ : ∃ vs, vss[j]? = some vs := ⟨_, List.getElem?_eq_getElem (by omega)⟩
    obtain ⟨T, g1, g2⟩ := bigs_at h3 hj hv
    have : (vss.flatten.drop (j * d.sz)).take d.sz = vs := by
      refine List.ext_getElem? fun m => ?_
      have hvl := hs vs (List.mem_of_getElem? hv)
      by_cases hm : m < d.sz
      · rw [List.getElem?_take_of_lt hm, List.getElem?_drop]
        exact flat_at hs hv m hm
      · rw [List.getElem?_eq_none (by rw [List.length_take]; omega), List.getElem?_eq_none (by omega)]
    rw [this]
    exact d.M_mono g2 (o.toM g1 fun k hk => hb k (g2 k hk).1)
def Ow.slice (e : Nat) (o : Ow d) : Ow (Kd.slice e d) where
  own := fun w S xs vs => ∃ v, vs = [v] ∧ rowP o e w S v xs
  stab := by
    rintro w w' S x vs ⟨v, rfl, h⟩ hk
    exact ⟨v, rfl, rowP_stab h hk⟩
  mono := by
    rintro w S S' x vs ⟨v, rfl, h⟩ hk
    exact ⟨v, rfl, rowP_mono h hk⟩
  toM := by
    rintro w S x vs base ⟨v, rfl, h⟩ hb
    exact ⟨v, rfl, rowP_R h hb⟩
end
def Ow.scalar {α : Type} (enc : α → Value) (h1 : ∀ x, (enc x).oneCell' = true) : Ow (Kd.scalar enc h1) where
  own := fun _ _ x vs => vs = [enc x]
  stab := fun h _ => h
  mono := fun h _ => h
  toM := fun h _ => h
def Ow.int (k : IntKind) : Ow (Kd.int k) := Ow.scalar _ _
def Ow.bool : Ow Kd.bool := Ow.scalar _ _
def Ow.string : Ow Kd.string := Ow.scalar _ _
def Ow.pair {α β : Type} {a : Kd α} {b : Kd β} (p : Ow a) (q : Ow b) : Ow (Kd.pair a b) where
  own := fun w S x vs => ∃ (c0 c1 : List Value) (S1 S2 : Fp), vs = c0 ++ c1 ∧ p.own w S1 x.1 c0 ∧ q.own w S2 x.2 c1 ∧ (∀ k, S1 k → S2 k → False) ∧ (∀ k, S1 k → S k) ∧ (∀ k, S2 k → S k)
  stab := by
    rintro w w' S x vs ⟨c0, c1, S1, S2, rfl, h1, h2, h3, h4, h5⟩ hk
    exact ⟨c0, c1, S1, S2, rfl, p.stab h1 fun k a => hk k (h4 k a), q.stab h2 fun k a => hk k (h5 k a), h3, h4, h5⟩
  mono := by
    rintro w S S' x vs ⟨c0, c1, S1, S2, rfl, h1, h2, h3, h4, h5⟩ hk
    exact ⟨c0, c1, S1, S2, rfl, h1, h2, h3, fun k a => hk k (h4 k a), fun k a => hk k (h5 k a)⟩
  toM := by
    rintro w S x vs base ⟨c0, c1, S1, S2, rfl, h1, h2, h3, h4, h5⟩ hb
    exact ⟨c0, c1, rfl, a.M_mono h4 (p.toM h1 fun k a => hb k (h4 k a)), b.M_mono h5 (q.toM h2 fun k a => hb k (h5 k a))⟩
def Ow.iso {α β : Type} {d : Kd α} (o : Ow d) (f : β → α) : Ow (Kd.iso d f) where
  own := fun w S x vs => o.own w S (f x) vs
  stab := o.stab
  mono := o.mono
  toM := o.toM
theorem flat_scalar {α : Type} {enc : α → Value} {h1 : ∀ x, (enc x).oneCell' = true} : Flat (Ow.scalar enc h1) := fun h => h
theorem flat_int (k : IntKind) : Flat (Ow.int k) := fun h => h
theorem flat_bool : Flat Ow.bool := fun h => h
theorem flat_string : Flat Ow.string := fun h => h
theorem flat_pair {α β : Type} {a : Kd α} {b : Kd β} {p : Ow a} {q : Ow b} (hp : Flat p) (hq : Flat q) : Flat (Ow.pair p q) := by
  rintro w x vs ⟨c0, c1, rfl, h0, h1⟩
  exact ⟨c0, c1, Em, Em, rfl, hp h0, hq h1, fun _ h => h.elim, fun _ h => h, fun _ h => h⟩
theorem flat_iso {α β : Type} {d : Kd α} {o : Ow d} (f : β → α) (h : Flat o) : Flat (Ow.iso o f) := fun hk => h hk

/-! ### the resources -/
section
variable {α : Type} {d : Kd α}
/-- A value's cells, and what lies behind them. -/
def El (o : Ow d) (x : α) (vs : List Value) : Asn where
  P := fun w S => o.own w S x vs
  stab := o.stab
  mono := o.mono
/-- A row. -/
def Rw (o : Ow d) (e : Nat) (v : Value) (xs : List α) : Asn where
  P := fun w S => rowP o e w S v xs
  stab := rowP_stab
  mono := rowP_mono
/-- A row whose i-th element (its cells: vs) is taken out. -/
def RwH (o : Ow d) (e : Nat) (v : Value) (xs : List α) (i : Nat) (vs : List Value) : Asn where
  P := fun w S => ∃ vss : List (List Value), vss[i]? = some vs ∧ (∀ k, v.ownBlock = some k → S k) ∧ w.ownsRow 0 e d.sz v xs.length vss.flatten ∧ bigsH o w (fun k => S k ∧ some k ≠ v.ownBlock) i xs vss
  stab := by
    rintro w w' S ⟨vss, h0, h1, h2, h3⟩ hk
    exact ⟨vss, h0, h1, own_move h2 (fun k hk' => hk k (h1 k hk')), bigsH_stab h3 fun k hk' => hk k hk'.1⟩
  mono := by
    rintro w S S' ⟨vss, h0, h1, h2, h3⟩ hk
    exact ⟨vss, h0, fun k hk' => hk k (h1 k hk'), h2, bigsH_mono h3 fun k hk' => ⟨hk k hk'.1, hk'.2⟩⟩
end
section
variable {α β : Type} {d : Kd α} {o : Ow d} {w0 w w' : World} {S0 : Fp} {L F : List Asn} {K : Asn → List Asn} {e n c : Nat} {v : Value} {A : Option Addr} {xs : List α}
theorem St.rd (H : St w0 S0 L w) (hu : U L (Rw o e (.slice A n c) xs) K) : n = xs.length ∧ xs.length ≤ c ∧ d.C w A xs.length xs := by
  obtain ⟨S, h, _⟩ := H.get hu
  obtain ⟨A', c', e', hl, hr⟩ := Kd.R_reads (rowP_R h (base := 0) fun _ _ => Nat.zero_le _)
  cases e'
  exact ⟨rfl, hl, hr⟩
theorem St.rdC (H : St w0 S0 L w) (hu : U L (Rw o e (.slice A xs.length c) xs) K) : d.C w A xs.length xs := (H.rd hu).2.2
theorem St.front {B : Asn} (H : St w0 S0 L w) (hs : Sel L B F) : St w0 S0 (B :: F) w := by
  obtain ⟨hm, S, h, hl⟩ := H
  exact ⟨hm, S, sl_sel hs h, hl⟩
/-- Two of its own are turned into one. -/
theorem St.upd2 {A1 B1 C1 : Asn} (H : St w0 S0 (A1 :: F) w) (hu : U F B1 K)
    (h : ∀ S1 S2 : Fp, A1.P w S1 → B1.P w S2 → (∀ k, S1 k → S2 k → False) → (∀ k, S1 k ∨ S2 k → k < w.heap.size) → Mut (fun k => S1 k ∨ S2 k) w w' ∧ ∃ S' : Fp, C1.P w' S' ∧ ∀ k, S' k → k < w'.heap.size ∧ ((S1 k ∨ S2 k) ∨ w.heap.size ≤ k)) : St w0 S0 (K C1) w' := by
  obtain ⟨hm, S, ⟨T1, T2, t1, t2, t3, t4, t5⟩, hl⟩ := H
  obtain ⟨S1, S2, g1, g3, g4, g5, g6⟩ := sl_u hu t2
  have hlt : ∀ k, T1 k ∨ S1 k → S k := fun k hk => hk.elim (t4 k) (fun hk => t5 k (g4 k hk))
  obtain ⟨hm', S', hB, hl'⟩ := h T1 S1 t1 g1 (fun k a b => t3 k a (g4 k b)) (fun k hk => (hl k (hlt k hk)).1)
  have hd2 : ∀ k, (T1 k ∨ S1 k) → S2 k → False := fun k a b => a.elim (fun a => t3 k a (g5 k b)) (fun a => g3 k a b)
  have hd : ∀ k, S' k → S2 k → False := fun k a b => by
    rcases (hl' k a).2 with h1 | h1
    · exact hd2 k h1 b
    · have := (hl k (t5 k (g5 k b))).1
      omega
  refine ⟨?_, fun k => S' k ∨ S2 k, g6 C1 w' S' _ hB (fun k hk => hm'.block k (hl k (t5 k (g5 k hk))).1 fun h1 => hd2 k h1 hk) hd (fun k a => .inl a) (fun k a => .inr a), ?_⟩
  · refine ⟨hm'.os.trans hm.os, hm'.tape.trans hm.tape, hm'.output.trans hm.output, Nat.le_trans hm.size hm'.size, fun k hk hn => (hm'.block k (Nat.lt_of_lt_of_le hk hm.size) fun h1 => ?_).trans (hm.block k hk hn)⟩
    rcases (hl k (hlt k h1)).2 with h2 | h2
    · exact hn h2
    · omega
  · rintro k (hk | hk)
    · refine ⟨(hl' k hk).1, ?_⟩
      rcases (hl' k hk).2 with h1 | h1
      · exact (hl k (hlt k h1)).2
      · exact .inr (Nat.le_trans hm.size h1)
    · exact ⟨Nat.lt_of_lt_of_le (hl k (t5 k (g5 k hk))).1 hm'.size, (hl k (t5 k (g5 k hk))).2⟩
/-- Where a row that is not empty lies. -/
theorem St.lies (H : St w0 S0 L w) (hu : U L (Rw o e (.slice A xs.length c) xs) K) (hn : 0 < xs.length) : ∃ g, A = some ⟨g, 0, none⟩ ∧ g < w.heap.size := by
  obtain ⟨S, ⟨vss, h1, h2, h3⟩, _⟩ := H.get hu
  obtain ⟨g, c', e', _, _, hl, _⟩ := own_at h2 hn
  cases e'
  exact ⟨g, rfl, hl⟩
/-- The empty row. -/
theorem St.row_nil (o : Ow d) (e : Nat) (H : St w0 S0 L w) : St w0 S0 (Rw o e (.slice none 0 0) ([] : List α) :: L) w :=
  H.emp (B := Rw o e (.slice none 0 0) []) ⟨[], fun k hk => by simp [Value.ownBlock] at hk, World.ownsRow_nil _ _ _ _, trivial⟩
/-- An element is taken out. -/
theorem St.take (H : St w0 S0 L w) (hu : U L (Rw o e (.slice A xs.length c) xs) K) (i : Nat) {x : α} (hi : xs[i]? = some x) :
    ∃ vs, St w0 S0 (El o x vs :: K (RwH o e (.slice A xs.length c) xs i vs)) w := by
  obtain ⟨hm, S, h, hl⟩ := H
  obtain ⟨S1, S2, ⟨vss, h1, h2, h3⟩, g3, g4, g5, g6⟩ := sl_u hu h
  obtain ⟨vs, T1, T2, e1, e2, e3, e4, e5, e6⟩ := bigs_take h3 hi
  refine ⟨vs, hm, S, ⟨T1, fun k => (S1 k ∧ ¬ T1 k) ∨ S2 k, e2, g6 (RwH o e (.slice A xs.length c) xs i vs) w (fun k => S1 k ∧ ¬ T1 k) _ ⟨vss, e1, fun k hk => ⟨h1 k hk, fun ht => (e5 k ht).2 hk.symm⟩, h2, bigsH_mono e3 fun k hk => ⟨⟨(e6 k hk).1, fun ht => e4 k ht hk⟩, (e6 k hk).2⟩⟩ (fun _ _ => rfl) (fun k a b => g3 k a.1 b) (fun k a => .inl a) (fun k a => .inr a), fun k a b => b.elim (fun b => b.2 a) (fun b => g3 k (e5 k a).1 b), fun k a => g4 k (e5 k a).1, fun k a => a.elim (fun a => g4 k a.1) (g5 k)⟩, hl⟩
/-- An element that is a row. -/
theorem St.takeR {d1 : Kd β} {o1 : Ow d1} {e1 : Nat} {xss : List (List β)} (H : St w0 S0 L w) (hu : U L (Rw (Ow.slice e1 o1) e (.slice A xss.length c) xss) K) (i : Nat) {x : List β} (hi : xss[i]? = some x) :
    ∃ A1 c1, St w0 S0 (Rw o1 e1 (.slice A1 x.length c1) x :: K (RwH (Ow.slice e1 o1) e (.slice A xss.length c) xss i [.slice A1 x.length c1])) w := by
  obtain ⟨vs, H'⟩ := H.take hu i hi
  obtain ⟨S, ⟨v, rfl, h⟩, _⟩ := H'.get p0
  obtain ⟨A1, c1, rfl, _⟩ := Kd.R_reads (rowP_R h (base := 0) fun _ _ => Nat.zero_le _)
  refine ⟨A1, c1, H'.imp p0 fun S hS _ => ?_⟩
  obtain ⟨v', e', h'⟩ := hS
  cases e'
  exact h'
/-- The cells of the element that is out. -/
theorem St.hole {i : Nat} {vs : List Value} (H : St w0 S0 L w) (hu : U L (RwH o e (.slice A n c) xs i vs) K) : n = xs.length ∧ i < xs.length ∧ ∃ g, A = some ⟨g, 0, none⟩ ∧ ∀ j u, vs[j]? = some u → w.cell? ⟨g, i * d.sz + j, none⟩ = some u := by
  obtain ⟨S, ⟨vss, h0, h1, h2, h3⟩, _⟩ := H.get hu
  obtain ⟨hl, hs⟩ := bigsH_len h3
  have hi : i < xs.length := by rw [← hl]; exact (List.getElem?_eq_some_iff.1 h0).1
  obtain ⟨g, c', e', _, _, _, hc⟩ := own_at h2 (by omega)
  cases e'
  refine ⟨rfl, hi, g, rfl, fun j u hj => hc _ _ ?_⟩
  have hvl := hs vs (List.mem_of_getElem? h0)
  rw [flat_at hs h0 j (by rw [← hvl]; exact (List.getElem?_eq_some_iff.1 hj).1)]
  exact hj
/-- It is put back, as it lies there. -/
theorem St.back {i : Nat} {vs : List Value} {x : α} (H : St w0 S0 (El o x vs :: F) w) (hu : U F (RwH o e v xs i vs) K) : St w0 S0 (K (Rw o e v (xs.set i x))) w := by
  refine H.upd2 (C1 := Rw o e v (xs.set i x)) hu fun S1 S2 hA hB hd hl => ⟨Mut.refl w |>.mono fun _ _ h => h, fun k => S1 k ∨ S2 k, ?_, fun k hk => ⟨hl k hk, .inl hk⟩⟩
  obtain ⟨vss, h0, h1, h2, h3⟩ := hB
  refine ⟨vss.set i vs, fun k hk => .inr (h1 k hk), ?_, ?_⟩
  · rw [show vss.set i vs = vss by
      refine List.ext_getElem? fun m => ?_
      rw [List.getElem?_set]
      split
      · subst_vars
        rw [h0]
        simp [(List.getElem?_eq_some_iff.1 h0).1]
      · rfl, List.length_set]
    exact h2
  · exact bigs_back h3 hA (fun k a b => hd k a b.1) (fun k a => ⟨.inl a, fun hk => hd k a (h1 k hk.symm)⟩) (fun k a => ⟨.inr a.1, a.2⟩)
theorem St.backR {d1 : Kd β} {o1 : Ow d1} {e1 : Nat} {xss : List (List β)} {i : Nat} {v1 : Value} {x : List β} (H : St w0 S0 (Rw o1 e1 v1 x :: F) w) (hu : U F (RwH (Ow.slice e1 o1) e v xss i [v1]) K) : St w0 S0 (K (Rw (Ow.slice e1 o1) e v (xss.set i x))) w :=
  (H.imp (B := El (Ow.slice e1 o1) x [v1]) p0 fun S hS _ => ⟨v1, rfl, hS⟩).back hu
/-- A cell of a row's block is written. -/
theorem own_set {base e' s m c' g j : Nat} {cells : List Value} {u : Value} (h : w.ownsRow base e' s (.slice (some ⟨g, 0, none⟩) m c') m cells) (hj : j < cells.length) : (w.setCell ⟨g, j, none⟩ u).ownsRow base e' s (.slice (some ⟨g, 0, none⟩) m c') m (cells.set j u) := by
  obtain ⟨h1, h2⟩ := h
  refine ⟨by simpa using h1, .inr ?_⟩
  rcases h2 with ⟨h2, _⟩ | ⟨g', cap, cur, he, hb, hh, h3, h4, h5, h6⟩
  · cases h2
  · cases he
    refine ⟨g, c', cur.setIfInBounds j u, rfl, hb, ?_, h3, h4, by simpa using h5, ?_⟩
    · simp [World.setCell, Array.getElem?_modify, hh]
    · rw [Array.toList_setIfInBounds, List.take_set, h6]
end
end Go.Proofs.Ytojpimpfpjhflaa.Fw
