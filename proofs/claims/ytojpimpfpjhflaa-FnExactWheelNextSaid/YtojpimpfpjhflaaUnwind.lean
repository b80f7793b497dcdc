/- The wheel: what unwind comes to. -/
import Derived.Test.YtojpimpfpjhflaaSlot
namespace Go.Proofs.Ytojpimpfpjhflaa.Wh
open Go.RowKit Go.Proofs.Ytojpimpfpjhflaa.Fw Go.Proofs.YtojpimpfpjhflaaW.PrintWords Go.Proofs.Ytojpimpfpjhflaa.PFnExactWheelOK
set_option linter.unusedVariables false
set_option linter.unusedSimpArgs false

def encT (x : S57) : List Value := [.int .i64 x.f0, .int .i64 x.f1, .int .i64 x.f2]
def flatT (ts : List S57) : List Value := ts.flatMap encT
theorem flatT_length (ts : List S57) : (flatT ts).length = ts.length * 3 := by
  induction ts with
  | nil => rfl
  | cons x xs ih => simp only [flatT, List.flatMap_cons, List.length_append, encT, List.length_cons, List.length_nil] at *; omega
theorem flatT_append (a b : List S57) : flatT (a ++ b) = flatT a ++ flatT b := by simp [flatT]
theorem flatT_one (ts : List S57) : ∀ u ∈ flatT ts, u.oneCell' = true := by
  intro u hu
  simp only [flatT, List.mem_flatMap, encT] at hu
  obtain ⟨x, _, hx⟩ := hu
  simp at hx
  rcases hx with rfl | rfl | rfl <;> rfl
theorem flatT_get (ts : List S57) (j r : Nat) (hr : r < 3) (hj : j < ts.length) : (flatT ts)[j * 3 + r]? = (encT (ts.getD j z57))[r]? := by
  induction ts generalizing j with
  | nil => simp at hj
  | cons x xs ih =>
    cases j with
    | zero =>
      simp only [flatT, List.flatMap_cons, Nat.zero_mul, Nat.zero_add]
      rw [List.getElem?_append_left (by simp [encT]; omega)]
      rfl
    | succ j =>
      simp only [flatT, List.flatMap_cons]
      rw [List.getElem?_append_right (by simp [encT]; omega)]
      have := ih j (by simpa using hj)
      simp only [flatT] at this
      rw [show (j + 1) * 3 + r - (encT x).length = j * 3 + r from by simp [encT]; omega, this]
      rfl
/-- A row that is read, as cells. -/
theorem row_flat {w : World} {b off : Nat} {l : List S57} (h : Kd.C k57 w (some ⟨b, off, none⟩) l.length l) (j : Nat) (u : Value) (hj : (flatT l)[j]? = some u) : w.cell? ((⟨b, off, none⟩ : Addr).add j) = some u := by
  have hjl : j < l.length * 3 := by
    have := (List.getElem?_eq_some_iff.1 hj).1
    rwa [flatT_length] at this
  have hj3 : j / 3 < l.length := by omega
  have h1 := row_cells h (j / 3) hj3 (j % 3) u (by
    have := flatT_get l (j / 3) (j % 3) (by omega) hj3
    rw [show j / 3 * 3 + j % 3 = j from by omega, hj] at this
    exact this.symm)
  rw [show (⟨b, off, none⟩ : Addr).add j = (⟨b, off + j / 3 * 3, none⟩ : Addr).add (j % 3) from by
    unfold Addr.add
    split <;> split <;> simp <;> omega]
  exact h1
/-- A row of the call's own reads as a row. -/
theorem own_reads_T {w : World} {base : Nat} {v : Value} {ts : List S57} (h : w.ownsRow base 57 3 v ts.length (flatT ts)) : ∃ A c, v = .slice A ts.length c ∧ Kd.C k57 w A ts.length ts := by
  obtain ⟨A, c, rfl, hc⟩ := own_slice_ h
  refine ⟨A, c, rfl, rfl, own_bound h, fun hn => ?_⟩
  obtain ⟨g, c', he, _, _, _, hcell⟩ := own_at h hn
  cases he
  refine ⟨_, rfl, fun j p hp => ⟨encT p, rfl, k57_mk w p, fun r u hr => ?_⟩⟩
  have hj : j < ts.length := (List.getElem?_eq_some_iff.1 hp).1
  have hr3 : r < 3 := (List.getElem?_eq_some_iff.1 hr).1
  have e : (⟨g, 0, none⟩ : Addr).add (j * k57.sz + r) = ⟨g, j * 3 + r, none⟩ := by
    show (⟨g, 0, none⟩ : Addr).add (j * 3 + r) = _
    unfold Addr.add
    split <;> simp_all
  rw [e]
  refine hcell _ _ ?_
  rw [flatT_get ts j r hr3 hj]
  have : ts.getD j z57 = p := by simp [List.getD_eq_getElem?_getD, hp]
  rw [this]
  exact hr

/-- What is asked of the sort (by the shelf). -/
def SortSaid : Prop := ∀ (v : Value) (ts : List S57) (w : World) (base : Nat), w.ownsRow base 57 3 v ts.length (flatT ts) → (∀ x ∈ ts, 0 ≤ x.f2 ∧ x.f2 ≤ 1000000) → ts.length ≤ 60 →
  Calls Try.prog 58 #[v, .func (.func 59) #[] #[]] w fun e w' => e = .returned (.tuple #[]) ∧ ∃ ts', ts'.Perm ts ∧ ts'.Pairwise (fun a b => a.f2 ≤ b.f2) ∧ w'.ownsRow base 57 3 v ts'.length (flatT ts') ∧ Mut (fun k => some k = v.ownBlock) w w'

/-! ### what a right wheel is -/
def levelB (now order : Int) (lvl : Nat) (slots : List (List S57)) : Prop := slots.length = 8 ∧ ∀ s : Nat, s < 8 → slotB now order lvl s 0 (slots.getD s []) = true
structure Good (now order : Int) (lv : List (List (List S57))) : Prop where
  n0 : 0 ≤ now
  n1 : now ≤ 1000000
  o0 : 0 ≤ order
  o1 : order ≤ 1000000
  three : lv.length = 3
  level : ∀ l, l < 3 → levelB now order l (lv.getD l [])
  few : lv.flatten.flatten.length ≤ 60
  ids : (lv.flatten.flatten.map (·.f0)).Nodup
  orders : (lv.flatten.flatten.map (·.f2)).Nodup

/-- The world within unwind. -/
structure UW (w wr : World) (now order : Int) (V : Value) (v : Value) (ts : List S57) : Prop where
  below : Below w.heap.size w wr
  size : w.heap.size + 3 ≤ wr.heap.size
  b1 : Blk wr w.heap.size [.int .i64 now, .int .i64 order, V] 29
  b2 : Blk wr (w.heap.size + 1) [.int .i64 0, .int .i64 0, .slice none 0 0] 69
  b4 : Blk wr (w.heap.size + 2) [.int .i64 now, .int .i64 order, v] 69
  own : wr.ownsRow (w.heap.size + 3) 57 3 v ts.length (flatT ts)
theorem UW.grow {w wr w2 : World} {now order : Int} {V v : Value} {ts : List S57} (h : UW w wr now order V v ts) (hb : Below wr.heap.size wr w2) : UW w w2 now order V v ts :=
  have hm := Mut.of_below hb
  ⟨h.below.trans (hb.mono h.below.size), Nat.le_trans h.size hb.size, h.b1.mut hm (fun h => h), h.b2.mut hm (fun h => h), h.b4.mut hm (fun h => h), own_mut h.own hm (fun _ _ h => h)⟩
end Go.Proofs.Ytojpimpfpjhflaa.Wh
