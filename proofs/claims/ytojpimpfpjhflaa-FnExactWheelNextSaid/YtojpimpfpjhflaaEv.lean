/- Answers of printed functions with enough rounds, and the loops of sz.., to.., eq.. by their shapes; nothing of one program. -/
import Derived.Test.YtojpimpfpjhflaaWWords
namespace Go.Proofs.Ytojpimpfpjhflaa.Fw
open Go Go.RowKit Go.Proofs.YtojpimpfpjhflaaW.PrintWords
set_option linter.unusedVariables false
set_option linter.unusedSimpArgs false

/-- With enough rounds the answer is r. -/
def Evt {α : Type} (g : Nat → Option α) (r : α) : Prop := ∃ K, ∀ k, K ≤ k → g k = some r
section
variable {α β γ : Type}
theorem Evt.now {g : Nat → Option α} {r : α} (h : ∀ k, g k = some r) : Evt g r := ⟨0, fun k _ => h k⟩
theorem Evt.const (r : α) : Evt (fun _ => some r) r := .now fun _ => rfl
theorem Evt.succ {g h : Nat → Option α} {r : α} (hs : ∀ k, g (k + 1) = h k) (hh : Evt h r) : Evt g r := by
  obtain ⟨K, hK⟩ := hh
  refine ⟨K + 1, fun k hk => ?_⟩
  obtain ⟨m, rfl⟩ : ∃ m, k = m + 1 := ⟨k - 1, by omega⟩
  rw [hs]
  exact hK m (by omega)
theorem Evt.bind {f : Nat → Option α} {g : Nat → α → Option β} {a : α} {b : β} (hf : Evt f a) (hg : Evt (fun k => g k a) b) : Evt (fun k => (f k).bind (g k)) b := by
  obtain ⟨K1, h1⟩ := hf
  obtain ⟨K2, h2⟩ := hg
  exact ⟨K1 + K2, fun k hk => by show (f k).bind (g k) = _; rw [h1 k (by omega)]; exact h2 k (by omega)⟩
theorem Evt.congr {g h : Nat → Option α} {r : α} (hs : ∀ k, g k = h k) (hh : Evt h r) : Evt g r := by
  obtain ⟨K, hK⟩ := hh
  exact ⟨K, fun k hk => (hs k).trans (hK k hk)⟩
theorem Evt.ex {g : Nat → Option α} {r : α} (h : Evt g r) : ∃ k, g k = some r := h.elim fun K hK => ⟨K, hK K (Nat.le_refl _)⟩
theorem Evt.uniq {g : Nat → Option α} {r s : α} (h : Evt g r) (h2 : Evt g s) : r = s := by
  obtain ⟨K1, h1⟩ := h
  obtain ⟨K2, h2⟩ := h2
  have := (h1 (K1 + K2) (by omega)).symm.trans (h2 (K1 + K2) (by omega))
  exact Option.some.inj this
theorem wrap64_in {a : Int} (h0 : -9223372036854775808 ≤ a) (h1 : a ≤ 9223372036854775807) : wrap64 a = a := by unfold wrap64; omega

def sumOf (cnt : α → Nat) : List α → Nat
  | [] => 0
  | x :: xs => cnt x + sumOf cnt xs
theorem getD_cons_succ' (x : α) (xs : List α) (i : Nat) (z : α) : (x :: xs).getD (i + 1) z = xs.getD i z := rfl
theorem drop_getD (l : List α) (k : Nat) (z : α) (h : k < l.length) : l.drop k = l.getD k z :: l.drop (k + 1) := by
  rw [List.drop_eq_getElem_cons h]
  simp [List.getD_eq_getElem?_getD, List.getElem?_eq_getElem h]

/-- sz..: what is left of a bound. -/
theorem sz_loop (L : Nat → List α → Int → Int → Option Int) (G : Nat → α → Int → Option Int) (z : α) (cnt : α → Nat)
    (hL : ∀ k xs left i, L (k + 1) xs left i = if i < (xs.length : Int) then (if 0 ≤ i then ((G k (xs.getD i.toNat z) left).bind fun t => (if t < 0 then (some (-1)) else (L k xs t (wrap64 (i + 1))))) else none) else some left)
    (hG : ∀ x (left : Int), 0 ≤ left → left ≤ 1048576 → ∃ r, Evt (fun k => G k x left) r ∧ (0 ≤ r → r + cnt x = left)) (xs : List α) (hx : (xs.length : Int) ≤ 9223372036854775807) :
    ∀ (left : Int), 0 ≤ left → left ≤ 1048576 → ∃ r, Evt (fun k => L k xs left 0) r ∧ (0 ≤ r → r + sumOf cnt xs = left) := by
  have key : ∀ d i : Nat, i + d = xs.length → ∀ left : Int, 0 ≤ left → left ≤ 1048576 → ∃ r, Evt (fun k => L k xs left i) r ∧ (0 ≤ r → r + sumOf cnt (xs.drop i) = left) := by
    intro d
    induction d with
    | zero =>
      intro i hi left h0 h1
      refine ⟨left, Evt.succ (h := fun _ => some left) (fun k => ?_) (.const _), fun _ => ?_⟩
      · rw [hL, if_neg (by omega)]
      · rw [List.drop_eq_nil_of_le (by omega)]
        simp [sumOf]
    | succ d ih =>
      intro i hi left h0 h1
      obtain ⟨r, hr, hrc⟩ := hG (xs.getD i z) left h0 h1
      rw [drop_getD xs i z (by omega)]
      by_cases hneg : r < 0
      · refine ⟨-1, Evt.succ (h := fun k => (G k (xs.getD i z) left).bind fun t => (if t < 0 then (some (-1)) else (L k xs t (wrap64 ((i : Int) + 1))))) (fun k => ?_) (Evt.bind hr ?_), fun h => by omega⟩
        · rw [hL, if_pos (by omega), if_pos (by omega), Int.toNat_natCast]
        · exact Evt.now fun k => if_pos hneg
      · obtain ⟨r2, hr2, hrc2⟩ := ih (i + 1) (by omega) r (by omega) (by have := hrc (by omega); omega)
        refine ⟨r2, Evt.succ (h := fun k => (G k (xs.getD i z) left).bind fun t => (if t < 0 then (some (-1)) else (L k xs t (wrap64 ((i : Int) + 1))))) (fun k => ?_) (Evt.bind hr ?_), fun h => ?_⟩
        · rw [hL, if_pos (by omega), if_pos (by omega), Int.toNat_natCast]
        · refine Evt.congr (fun k => ?_) hr2
          rw [if_neg hneg, wrap64_in (by omega) (by omega)]
          rfl
        · have := hrc2 h
          have := hrc (by omega)
          simp only [sumOf]
          omega
  intro left h0 h1
  obtain ⟨r, hr, hc⟩ := key xs.length 0 (by omega) left h0 h1
  exact ⟨r, hr, by simpa using hc⟩
/-- to..: each element turned. -/
theorem to_loop (L : Nat → List α → List β → Int → Option (List β)) (G : Nat → α → Option β) (z : α) (conv : α → β)
    (hL : ∀ k xs ys i, L (k + 1) xs ys i = if i < (xs.length : Int) then (if 0 ≤ i then ((G k (xs.getD i.toNat z)).bind fun t => (if i < (ys.length : Int) then (L k xs (ys.set i.toNat t) (wrap64 (i + 1))) else none)) else none) else some ys)
    (hG : ∀ x, Evt (fun k => G k x) (conv x)) (xs : List α) (hx : (xs.length : Int) ≤ 9223372036854775807) (ys : List β) (hy : ys.length = xs.length) : Evt (fun k => L k xs ys 0) (xs.map conv) := by
  have key : ∀ d i : Nat, i + d = xs.length → Evt (fun k => L k xs ((xs.take i).map conv ++ ys.drop i) i) (xs.map conv) := by
    intro d
    induction d with
    | zero =>
      intro i hi
      refine Evt.succ (h := fun _ => some (xs.map conv)) (fun k => ?_) (.const _)
      rw [hL, if_neg (by omega), List.take_of_length_le (by omega), List.drop_eq_nil_of_le (by omega), List.append_nil]
    | succ d ih =>
      intro i hi
      refine Evt.succ (h := fun k => (G k (xs.getD i z)).bind fun t => L k xs (((xs.take i).map conv ++ ys.drop i).set i t) (wrap64 ((i : Int) + 1))) (fun k => ?_) (Evt.bind (hG _) ?_)
      · rw [hL, if_pos (by omega), if_pos (by omega), Int.toNat_natCast]
        congr 1
        funext t
        rw [if_pos (by simp only [List.length_append, List.length_map, List.length_take, List.length_drop]; omega)]
      · refine Evt.congr (fun k => ?_) (ih (i + 1) (by omega))
        rw [wrap64_in (by omega) (by omega)]
        have e1 : ((xs.take i).map conv ++ ys.drop i).set i (conv (xs.getD i z)) = (xs.take (i + 1)).map conv ++ ys.drop (i + 1) := by
          have h1 : ((xs.take i).map conv).length = i := by rw [List.length_map, List.length_take]; omega
          rw [List.set_append_right _ _ (by omega), h1, Nat.sub_self, List.drop_eq_getElem_cons (show i < ys.length by omega), List.set_cons_zero, List.take_add_one, List.getElem?_eq_getElem (show i < xs.length by omega)]
          rw [Option.toList_some, List.map_append, List.append_assoc, List.getD_eq_getElem?_getD, List.getElem?_eq_getElem (show i < xs.length by omega)]
          rfl
        rw [e1]
        rfl
  have := key xs.length 0 (by omega)
  simpa using this
/-- eq..: what is the same is told so. -/
theorem eq_loop (L : Nat → List α → List α → Int → Option Bool) (G : Nat → α → α → Option Bool) (z : α)
    (hL : ∀ k xs ys i, L (k + 1) xs ys i = if i < (xs.length : Int) then (if 0 ≤ i then (if i < (ys.length : Int) then ((G k (xs.getD i.toNat z) (ys.getD i.toNat z)).bind fun t => (if t = true then (L k xs ys (wrap64 (i + 1))) else some false)) else none) else none) else some true)
    (hG : ∀ x, Evt (fun k => G k x x) true) (xs : List α) (hx : (xs.length : Int) ≤ 9223372036854775807) : Evt (fun k => L k xs xs 0) true := by
  have key : ∀ d i : Nat, i + d = xs.length → Evt (fun k => L k xs xs i) true := by
    intro d
    induction d with
    | zero =>
      intro i hi
      refine Evt.succ (h := fun _ => some true) (fun k => ?_) (.const _)
      rw [hL, if_neg (by omega)]
    | succ d ih =>
      intro i hi
      refine Evt.succ (h := fun k => (G k (xs.getD i z) (xs.getD i z)).bind fun t => (if t = true then (L k xs xs (wrap64 ((i : Int) + 1))) else some false)) (fun k => ?_) (Evt.bind (hG _) ?_)
      · rw [hL, if_pos (by omega), if_pos (by omega), if_pos (by omega), Int.toNat_natCast]
      · refine Evt.congr (fun k => ?_) (ih (i + 1) (by omega))
        rw [if_pos rfl, wrap64_in (by omega) (by omega)]
        rfl
  exact key xs.length 0 (by omega)
end
end Go.Proofs.Ytojpimpfpjhflaa.Fw
