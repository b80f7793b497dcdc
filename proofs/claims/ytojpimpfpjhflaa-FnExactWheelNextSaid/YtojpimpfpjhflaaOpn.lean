/- An argument that is read as plain data is of its kind: down the types; nothing of one program. -/
import Derived.Test.YtojpimpfpjhflaaShp
import Derived.WalkKit
import Derived.ProofKit
import Derived.OpenShut
import Derived.ShutString
import Derived.ChangeOld
import Derived.SizedLaws
import Derived.Deep.Slices
namespace Go.Proofs.Ytojpimpfpjhflaa.Fw
open Go Go.RowKit Go.Proofs.YtojpimpfpjhflaaW.PrintWords Go.Deep
set_option linter.unusedVariables false
set_option linter.unusedSimpArgs false
section
variable {P : Program} {α β : Type}
/-- What lies there is of kind d. -/
def Opens (P : Program) (t : TypeId) (d : Kd α) : Prop := ∀ {H : Type} {enc : TypeId × Value → H} {w : World} {fuel : Nat} {cs : List Value} {x : DataW H × List MemPlace}, DataW.trod enc P w 0 (fun _ => true) true fuel t cs = some x → ∃ v : α, d.K w v cs
theorem opens_int {t : TypeId} {k : IntKind} (ht : P.underlying t = some (.int k)) : Opens P t (Kd.int k) := fun h => by
  obtain ⟨n, rfl, _, _⟩ := DataW.trod_int ht h
  exact ⟨n, rfl⟩
theorem opens_bool {t : TypeId} (ht : P.underlying t = some .bool) : Opens P t Kd.bool := fun h => by
  obtain ⟨b, rfl, _⟩ := DataW.trod_bool ht h
  exact ⟨b, rfl⟩
theorem opens_string {t : TypeId} (ht : P.underlying t = some .string) : Opens P t Kd.string := fun h => by
  obtain ⟨s, rfl, _⟩ := DataW.trod_string ht h
  exact ⟨s, rfl⟩
theorem opens_slice {t e e' : TypeId} {d : Kd α} (ht : P.underlying t = some (.slice e)) (he : Opens P e d) (hs : P.cellsOf e = d.sz) : Opens P t (Kd.slice e' d) := fun {H enc w fuel cs x} h => by
  rcases open_slice ht h with ⟨rfl, _⟩ | ⟨a, len, cap, m, n, D, Pl, rfl, _, hl, hm, hmm, _, hel⟩
  · exact ⟨[], none, 0, rfl, Nat.le_refl _, Kd.C_nil d w⟩
  · have hle : len ≤ m := by rw [hmm]; split <;> omega
    have key : ∀ q, q ≤ len → ∃ l : List α, l.length = q ∧ ∀ j p, l[j]? = some p → ∃ c, c.length = d.sz ∧ d.K w p c ∧ ∀ i u, c[i]? = some u → w.cell? (a.add (j * d.sz + i)) = some u := by
      intro q
      induction q with
      | zero => exact fun _ => ⟨[], rfl, fun j p h => by simp at h⟩
      | succ q ih =>
        intro hq
        obtain ⟨l, hl1, hl2⟩ := ih (by omega)
        obtain ⟨cs', hc1, hc2⟩ := hel q (by omega)
        obtain ⟨v, hv⟩ := he hc2
        obtain ⟨_, hlen, hcell⟩ := World.cells?_some hc1
        refine ⟨l ++ [v], by simp [hl1], fun j p hj => ?_⟩
        rcases Nat.lt_or_ge j l.length with h1 | h1
        · rw [List.getElem?_append_left h1] at hj
          exact hl2 j p hj
        · rw [List.getElem?_append_right h1] at hj
          have hj0 : j = q := by
            have := (List.getElem?_eq_some_iff.1 hj).1
            simp at this
            omega
          subst hj0
          rw [hl1, Nat.sub_self] at hj
          simp at hj
          subst hj
          refine ⟨cs', by rw [hlen, hs], hv, fun i u hu => ?_⟩
          have hi : i < cs'.length := (List.getElem?_eq_some_iff.1 hu).1
          have := hcell i (by omega)
          rw [hu] at this
          rw [← this, hs, Go.Deep.add_add]
    obtain ⟨l, hl1, hl2⟩ := key len (Nat.le_refl _)
    refine ⟨l, some a, cap, by rw [hl1], by omega, rfl, by simp only [maxLen] at hm; omega, fun _ => ⟨a, rfl, hl2⟩⟩
/-- The fields of a struct, from some place on. -/
def OpensFs (P : Program) (fs : List Field) (off : Nat) (d : Kd α) : Prop := ∀ {H : Type} {enc : TypeId × Value → H} {w : World} {n : Nat} {cs : List Value},
  (∀ f ∈ fs, ∃ y, DataW.trod enc P w 0 (fun _ => true) true n f.type ((cs.drop f.offset).take (P.cellsOf f.type)) = some y) → cs.length = off + d.sz → ∃ v : α, d.K w v (cs.drop off)
theorem opensFs_one {f : Field} {off : Nat} {d : Kd α} (ho : f.offset = off) (hs : P.cellsOf f.type = d.sz) (hd : Opens P f.type d) : OpensFs P [f] off d := fun {H enc w n cs} h hl => by
  obtain ⟨y, hy⟩ := h f List.mem_cons_self
  obtain ⟨v, hv⟩ := hd hy
  rw [ho, hs, List.take_of_length_le (by rw [List.length_drop]; omega)] at hv
  exact ⟨v, hv⟩
theorem opensFs_cons {f : Field} {fs : List Field} {off : Nat} {a : Kd α} {b : Kd β} (ho : f.offset = off) (hs : P.cellsOf f.type = a.sz) (ha : Opens P f.type a) (hb : OpensFs P fs (off + a.sz) b) : OpensFs P (f :: fs) off (Kd.pair a b) := fun {H enc w n cs} h hl => by
  obtain ⟨y, hy⟩ := h f List.mem_cons_self
  obtain ⟨v, hv⟩ := ha hy
  rw [ho, hs] at hv
  have hl' : cs.length = off + a.sz + b.sz := by
    have : (Kd.pair a b).sz = a.sz + b.sz := rfl
    omega
  obtain ⟨u, hu⟩ := hb (fun g hg => h g (List.mem_cons_of_mem _ hg)) hl'
  refine ⟨(v, u), (cs.drop off).take a.sz, cs.drop (off + a.sz), ?_, hv, hu⟩
  rw [← List.drop_drop, List.take_append_drop]
theorem opens_struct {t : TypeId} {fs : List Field} {d : Kd α} (ht : P.underlying t = some (.struct fs.toArray)) (hs : P.cellsOf t = d.sz) (hf : OpensFs P fs 0 d) : Opens P t d := fun {H enc w fuel cs x} h => by
  obtain ⟨xs, n, _, _, hl, hlen, hfs⟩ := DataW.trod_struct ht h
  obtain ⟨v, hv⟩ := hf (fun f hf' => by
    obtain ⟨i, hi, he⟩ := List.getElem_of_mem hf'
    have := hfs i f (by simp [hi, he])
    obtain ⟨y, hy⟩ : ∃ y, xs[i]? = some y := ⟨_, List.getElem?_eq_getElem (by simp at hlen; omega)⟩
    exact ⟨y, this.trans hy⟩) (by omega : cs.length = 0 + d.sz)
  exact ⟨v, by simpa using hv⟩
theorem opens_iso {t : TypeId} {d : Kd α} {f : β → α} (g : α → β) (hg : ∀ v, f (g v) = v) (h : Opens P t d) : Opens P t (Kd.iso d f) := fun {H enc w fuel cs x} hx => by
  obtain ⟨v, hv⟩ := h hx
  exact ⟨g v, by show d.K w (f (g v)) cs; rw [hg]; exact hv⟩
end
end Go.Proofs.Ytojpimpfpjhflaa.Fw
