/- The wheel: what unwind comes to, the plain part. -/
import Derived.Test.YtojpimpfpjhflaaUnwind
import Derived.Test.YtojpimpfpjhflaaSlOps
namespace Go.Proofs.Ytojpimpfpjhflaa.Wh
open Go.RowKit Go.Proofs.Ytojpimpfpjhflaa.Fw Go.Proofs.YtojpimpfpjhflaaW.PrintWords Go.Proofs.Ytojpimpfpjhflaa.PFnExactWheelOK
set_option linter.unusedVariables false
set_option linter.unusedSimpArgs false

def o57 : Ow k57 := Ow.iso (Ow.pair (Ow.int .i64) (Ow.pair (Ow.int .i64) (Ow.int .i64))) _
theorem flat57 : Flat o57 := flat_iso _ (flat_pair (flat_int _) (flat_pair (flat_int _) (flat_int _)))
abbrev RT (A : Option Addr) (c : Nat) (ts : List S57) : Asn := Rw o57 57 (.slice A ts.length c) ts

theorem take_flat {α : Type} (l : List (List α)) (j : Nat) (h : j < l.length) : (l.take (j + 1)).flatten = (l.take j).flatten ++ l.getD j [] := by
  rw [List.take_add_one, List.getElem?_eq_getElem h, Option.toList_some, List.flatten_append, List.getD_eq_getElem?_getD, List.getElem?_eq_getElem h, Option.getD_some]
  congr 1
  exact List.append_nil _
theorem flat_le {α : Type} (l : List (List α)) (j : Nat) : (l.take j).flatten.length ≤ l.flatten.length := by
  conv => rhs; rw [← List.take_append_drop j l, List.flatten_append, List.length_append]
  omega

/-- The first place of a number. -/
theorem fidx_le (ts : List S57) : ∀ i, i < ts.length → ∃ k : Nat, k ≤ i ∧ fidx (ts.getD i z57).f0 ts = k ∧ (ts.getD k z57).f0 = (ts.getD i z57).f0 ∧ ∀ j, j < k → (ts.getD j z57).f0 ≠ (ts.getD i z57).f0 := by
  intro i hi
  have key : ∀ N k, N = i - k → k ≤ i → (∀ j, j < k → (ts.getD j z57).f0 ≠ (ts.getD i z57).f0) → ∃ k : Nat, k ≤ i ∧ (ts.getD k z57).f0 = (ts.getD i z57).f0 ∧ ∀ j, j < k → (ts.getD j z57).f0 ≠ (ts.getD i z57).f0 := by
    intro N
    induction N with
    | zero => intro k h1 h2 h3; exact ⟨i, Nat.le_refl _, rfl, fun j hj => h3 j (by omega)⟩
    | succ N ih =>
      intro k h1 h2 h3
      by_cases e : (ts.getD k z57).f0 = (ts.getD i z57).f0
      · exact ⟨k, h2, e, h3⟩
      · exact ih (k + 1) (by omega) (by omega) (fun j hj => by
          by_cases ej : j = k
          · rw [ej]; exact e
          · exact h3 j (by omega))
  obtain ⟨k, h1, h2, h3⟩ := key _ 0 rfl (Nat.zero_le _) (fun j hj => absurd hj (Nat.not_lt_zero _))
  refine ⟨k, h1, ?_, h2, h3⟩
  unfold fidx idxP
  rw [idxFrom_at _ ts k 0 (by omega) (fun j hj => decide_eq_false (h3 j hj)) (decide_eq_true h2), Nat.zero_add]
theorem getD_map {β : Type} (f : S57 → β) (ts : List S57) (i : Nat) (hi : i < ts.length) : (ts.map f)[i]? = some (f (ts.getD i z57)) := by
  simp [List.getD_eq_getElem?_getD, List.getElem?_eq_getElem hi]
def TOK (ts : List S57) (i : Nat) : Prop := (0 < i → (ts.getD (i - 1) z57).f2 ≠ (ts.getD i z57).f2) ∧ fidx (ts.getD i z57).f0 ts = i
theorem pair_le {ts : List S57} (hs : ts.Pairwise (fun a b => a.f2 ≤ b.f2)) {i j : Nat} (hij : i < j) (hj : j < ts.length) : (ts.getD i z57).f2 ≤ (ts.getD j z57).f2 := by
  have := List.pairwise_iff_getElem.1 hs i j (by omega) hj hij
  simpa [List.getD_eq_getElem?_getD, List.getElem?_eq_getElem, hj, show i < ts.length by omega] using this
theorem nodup_map {β : Type} (f : S57 → β) (ts : List S57) (h : ∀ i j, i < j → j < ts.length → f (ts.getD i z57) ≠ f (ts.getD j z57)) : (ts.map f).Nodup := by
  refine List.pairwise_iff_getElem.2 fun i j hi hj hij => ?_
  have := h i j hij (by simpa using hj)
  have hi' : i < ts.length := by simpa using hi
  have hj' : j < ts.length := by simpa using hj
  simpa [List.getD_eq_getElem?_getD, List.getElem?_eq_getElem, hi', hj'] using this
theorem of_nodup_map {β : Type} (f : S57 → β) (ts : List S57) (h : (ts.map f).Nodup) (i j : Nat) (hij : i < j) (hj : j < ts.length) : f (ts.getD i z57) ≠ f (ts.getD j z57) := by
  have hi' : i < ts.length := by omega
  have := List.pairwise_iff_getElem.1 h i j (by simpa using hi') (by simpa using hj) hij
  simpa [List.getD_eq_getElem?_getD, List.getElem?_eq_getElem, hi', hj] using this
theorem tok_nodup (ts : List S57) (h : ∀ i, i < ts.length → TOK ts i) (hs : ts.Pairwise (fun a b => a.f2 ≤ b.f2)) : (ts.map (·.f0)).Nodup ∧ (ts.map (·.f2)).Nodup := by
  constructor
  · refine nodup_map _ ts fun i j hij hj e => ?_
    obtain ⟨k, h1, h2, h3, h4⟩ := fidx_le ts j hj
    have := (h j hj).2
    rw [h2] at this
    exact h4 i (by omega) e
  · refine nodup_map _ ts fun i j hij hj e => ?_
    have h1 := pair_le hs (i := j - 1) (j := j) (by omega) hj
    have h2 := (h j hj).1 (by omega)
    have h3 : (ts.getD i z57).f2 ≤ (ts.getD (j - 1) z57).f2 := by
      by_cases e : i = j - 1
      · rw [e]; exact Int.le_refl _
      · exact pair_le hs (by omega) (by omega)
    have e' : (ts.getD i z57).f2 = (ts.getD j z57).f2 := e
    omega
theorem not_tok (ts : List S57) (i : Nat) (hi : i < ts.length) (h : ¬ TOK ts i) : ¬ ((ts.map (·.f0)).Nodup ∧ (ts.map (·.f2)).Nodup) := by
  rintro ⟨a, b⟩
  refine h ⟨fun h0 => of_nodup_map _ ts b (i - 1) i (by omega) hi, ?_⟩
  obtain ⟨k, h1, h2, h3, h4⟩ := fidx_le ts i hi
  rw [h2]
  by_cases e : k = i
  · rw [e]
  · exact absurd h3 (of_nodup_map _ ts a k i (by omega) hi)

/-- slices.SortFunc at timers, by their orders. -/
def SortRw : Prop := ∀ (A : Option Addr) (c : Nat) (ts : List S57) (w : World), (∀ x ∈ ts, 0 ≤ x.f2 ∧ x.f2 ≤ 1000000) → ts.length ≤ 60 →
  Tri Try.prog 58 #[.slice A ts.length c, .func (.func 59) #[] #[]] w [RT A c ts] fun e LQ => e = .returned (.tuple #[]) ∧ ∃ ts', ts'.Perm ts ∧ ts'.Pairwise (fun a b => a.f2 ≤ b.f2) ∧ LQ = [RT A c ts']
theorem slotB_orders (now order lvl slot : Int) : ∀ (p : Int) (l : List S57), 0 ≤ p → slotB now order lvl slot p l = true → ∀ x ∈ l, 0 ≤ x.f2 ∧ x.f2 ≤ order
  | p, [], _, _, x, hx => absurd hx List.not_mem_nil
  | p, y :: ys, hp, h, x, hx => by
    unfold slotB at h
    split at h
    · rename_i hc
      rcases List.mem_cons.1 hx with rfl | hx
      · omega
      · exact slotB_orders now order lvl slot y.f2 ys (by omega) h x hx
    · cases h
def UQ (now order : Int) (lv : List (List (List S57))) (e : Ending) (LQ : List Asn) : Prop :=
  ∃ A c ts b, e = .returned (.tuple #[.agg #[.int .i64 now, .int .i64 order, .slice A ts.length c], .bool b]) ∧ LQ = [RT A c ts] ∧
    (b = true → Good now order lv ∧ ts.Perm lv.flatten.flatten ∧ ts.Pairwise (fun a b => a.f2 ≤ b.f2)) ∧ (b = false → ¬ Good now order lv)
end Go.Proofs.Ytojpimpfpjhflaa.Wh
