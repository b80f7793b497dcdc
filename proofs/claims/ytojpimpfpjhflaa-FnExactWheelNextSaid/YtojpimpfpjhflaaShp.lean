/- Small laws for the functions by shape: elements of rows, sums of lengths; nothing of one program. -/
import Derived.Test.YtojpimpfpjhflaaSlOps2
import Derived.Test.YtojpimpfpjhflaaEv
import Derived.Test.YtojpimpfpjhflaaMix
namespace Go.Proofs.Ytojpimpfpjhflaa.Fw
open Go Go.RowKit Go.Proofs.YtojpimpfpjhflaaW.PrintWords
set_option linter.unusedVariables false
set_option linter.unusedSimpArgs false
section
variable {α β : Type} {d : Kd α} {w : World} {A : Option Addr} {n : Nat} {l : List α}
/-- Where an element of a row that is read lies. -/
theorem row_at (h : d.C w A n l) (z : α) (i : Nat) (hi : i < n) (hsz : 0 < d.sz) : ∃ b off cs, A = some ⟨b, off, none⟩ ∧ b < w.heap.size ∧ cs.length = d.sz ∧ d.K w (l.getD i z) cs ∧ ∀ j u, cs[j]? = some u → w.cell? ((⟨b, off + i * d.sz, none⟩ : Addr).add j) = some u := by
  have first : ∀ k, k < n → ∃ (ad : Addr) (cs : List Value), A = some ad ∧ cs.length = d.sz ∧ d.K w (l.getD k z) cs ∧ ∀ j u, cs[j]? = some u → w.cell? (ad.add (k * d.sz + j)) = some u := fun k hk => by
    obtain ⟨ad, cs, e, hl, hK, hc⟩ := Kd.C_get h z (k : Int) (by omega) (by omega)
    rw [Int.toNat_natCast] at hK hc
    exact ⟨ad, cs, e, hl, hK, hc⟩
  obtain ⟨ad, cs0, e0, hl0, _, hc0⟩ := first 0 (by omega)
  obtain ⟨b, off, sp⟩ := ad
  have hsp : sp = none := by
    obtain ⟨u, hu⟩ : ∃ u, cs0[0]? = some u := ⟨_, List.getElem?_eq_getElem (by omega)⟩
    have h2 := hc0 0 u hu
    cases sp with
    | none => rfl
    | some q =>
      simp [Addr.add, World.cell?] at h2
      split at h2 <;> simp at h2
  subst hsp
  obtain ⟨ad, cs, e, hl, hK, hc⟩ := first i hi
  rw [e0] at e
  cases e
  obtain ⟨u, hu⟩ : ∃ u, cs[0]? = some u := ⟨_, List.getElem?_eq_getElem (by omega)⟩
  have hcell : ∀ j u, cs[j]? = some u → w.cell? ((⟨b, off + i * d.sz, none⟩ : Addr).add j) = some u := fun j u hj => by
    have := hc j u hj
    rw [add_gg] at this ⊢
    rwa [← Nat.add_assoc] at this
  have hb := World.block_lt_of_cell? w _ (hcell 0 u hu)
  rw [add_gg] at hb
  exact ⟨b, off, cs, e0, hb, hl, hK, hcell⟩
theorem sumOf_le (cnt : α → Nat) : ∀ (l : List α) (z : α) (i : Nat), i < l.length → cnt (l.getD i z) ≤ sumOf cnt l
  | x :: xs, z, 0, _ => by simp [sumOf]
  | x :: xs, z, i + 1, h => by
    have := sumOf_le cnt xs z i (by simpa using h)
    simp only [sumOf, getD_cons_succ']
    omega
theorem map_of_at {conv : α → β} {l : List α} {xs : List β} (z : α) (hx : xs.length = l.length) (h : ∀ j, j < l.length → xs[j]? = some (conv (l.getD j z))) : xs = l.map conv := by
  refine List.ext_getElem? fun j => ?_
  by_cases hj : j < l.length
  · rw [h j hj, List.getElem?_map, List.getElem?_eq_getElem hj]
    simp [List.getD_eq_getElem?_getD, List.getElem?_eq_getElem hj]
  · rw [List.getElem?_eq_none (by omega), List.getElem?_eq_none (by rw [List.length_map]; omega)]
theorem set_at {xs : List β} {i : Nat} {y : β} (hi : i < xs.length) {f : Nat → β} (hy : y = f i) (h : ∀ j, j < i → xs[j]? = some (f j)) : ∀ j, j < i + 1 → (xs.set i y)[j]? = some (f j) := fun j hj => by
  rw [List.getElem?_set]
  by_cases e : i = j
  · rw [if_pos e, if_pos hi, ← e, hy]
  · rw [if_neg e]; exact h j (by omega)
theorem getElem?_getD {l : List α} {i : Nat} (z : α) (hi : i < l.length) : l[i]? = some (l.getD i z) := by
  rw [List.getD_eq_getElem?_getD, List.getElem?_eq_getElem hi]; rfl
end
theorem args1 {ρ : Operand → Value} {x : Operand} {v : Value} (h : ρ x = v) : (([x] : List Operand).map ρ).toArray = #[v] := by rw [List.map_cons, List.map_nil, h]
theorem args2 {ρ : Operand → Value} {x y : Operand} {v u : Value} (h : ρ x = v) (h2 : ρ y = u) : (([x, y] : List Operand).map ρ).toArray = #[v, u] := by rw [List.map_cons, List.map_cons, List.map_nil, h, h2]
theorem args3 {ρ : Operand → Value} {x y z : Operand} {v u t : Value} (h : ρ x = v) (h2 : ρ y = u) (h3 : ρ z = t) : (([x, y, z] : List Operand).map ρ).toArray = #[v, u, t] := by rw [List.map_cons, List.map_cons, List.map_cons, List.map_nil, h, h2, h3]
end Go.Proofs.Ytojpimpfpjhflaa.Fw
