/- Separation for the walk: resources with footprints, a state of a function's own memory, and the rules over it; nothing of one program. -/
import Derived.Test.YtojpimpfpjhflaaFwMem
import Derived.Test.YtojpimpfpjhflaaWWords
namespace Go.Proofs.Ytojpimpfpjhflaa.Fw
open Go Go.RowKit Go.Proofs.YtojpimpfpjhflaaW.PrintWords
set_option linter.unusedVariables false
set_option linter.unusedSimpArgs false

/-! ### resources -/
abbrev Fp := Nat → Prop
structure Asn where
  P : World → Fp → Prop
  stab : ∀ {w w' : World} {S : Fp}, P w S → (∀ k, S k → w'.heap[k]? = w.heap[k]?) → P w' S
  mono : ∀ {w : World} {S S' : Fp}, P w S → (∀ k, S k → S' k) → P w S'
def sl : List Asn → World → Fp → Prop
  | [], _, _ => True
  | A :: L, w, S => ∃ S1 S2 : Fp, A.P w S1 ∧ sl L w S2 ∧ (∀ k, S1 k → S2 k → False) ∧ (∀ k, S1 k → S k) ∧ (∀ k, S2 k → S k)
theorem sl_stab : ∀ {L : List Asn} {w w' : World} {S : Fp}, sl L w S → (∀ k, S k → w'.heap[k]? = w.heap[k]?) → sl L w' S
  | [], _, _, _, _, _ => trivial
  | A :: L, w, w', S, ⟨S1, S2, h1, h2, h3, h4, h5⟩, h => ⟨S1, S2, A.stab h1 fun k hk => h k (h4 k hk), sl_stab h2 fun k hk => h k (h5 k hk), h3, h4, h5⟩
theorem sl_mono : ∀ {L : List Asn} {w : World} {S S' : Fp}, sl L w S → (∀ k, S k → S' k) → sl L w S'
  | [], _, _, _, _, _ => trivial
  | A :: L, w, S, S', ⟨S1, S2, h1, h2, h3, h4, h5⟩, h => ⟨S1, S2, h1, h2, h3, fun k hk => h k (h4 k hk), fun k hk => h k (h5 k hk)⟩
theorem sl_app : ∀ {L1 L2 : List Asn} {w : World} {S1 S2 S : Fp}, sl L1 w S1 → sl L2 w S2 → (∀ k, S1 k → S2 k → False) → (∀ k, S1 k → S k) → (∀ k, S2 k → S k) → sl (L1 ++ L2) w S
  | [], L2, w, S1, S2, S, _, h2, _, _, h5 => sl_mono h2 h5
  | A :: L1, L2, w, S1, S2, S, ⟨T1, T2, g1, g2, g3, g4, g5⟩, h2, h3, h4, h5 =>
    ⟨T1, fun k => T2 k ∨ S2 k, g1, sl_app g2 h2 (fun k a b => h3 k (g5 k a) b) (fun k a => .inl a) (fun k a => .inr a), fun k a b => b.elim (g3 k a) (h3 k (g4 k a)), fun k a => h4 k (g4 k a), fun k a => a.elim (fun a => h4 k (g5 k a)) (h5 k)⟩
/-- One of a list, and the others. -/
inductive Sel : List Asn → Asn → List Asn → Prop
  | h {A : Asn} {L : List Asn} : Sel (A :: L) A L
  | t {A B : Asn} {L F : List Asn} : Sel L A F → Sel (B :: L) A (B :: F)
theorem sl_sel {A : Asn} {L F : List Asn} {w : World} (hs : Sel L A F) : ∀ {S : Fp}, sl L w S → sl (A :: F) w S := by
  induction hs with
  | h => exact fun h => h
  | t _ ih =>
    rintro S ⟨S1, S2, h1, h2, h3, h4, h5⟩
    obtain ⟨T1, T2, g1, g2, g3, g4, g5⟩ := ih h2
    exact ⟨T1, fun k => S1 k ∨ T2 k, g1, ⟨S1, T2, h1, g2, fun k a b => h3 k a (g5 k b), fun k a => .inl a, fun k a => .inr a⟩, fun k a b => b.elim (fun b => h3 k b (g4 k a)) (g3 k a), fun k a => h5 k (g4 k a), fun k a => a.elim (h4 k) fun a => h5 k (g5 k a)⟩
/-- Several of a list, and the others. -/
inductive Sels : List Asn → List Asn → List Asn → Prop
  | n {L : List Asn} : Sels L [] L
  | c {A : Asn} {L F Lc F' : List Asn} : Sel L A F → Sels F Lc F' → Sels L (A :: Lc) F'
theorem sl_sels {L Lc F : List Asn} {w : World} (hs : Sels L Lc F) : ∀ {S : Fp}, sl L w S → ∃ S1 S2 : Fp, sl Lc w S1 ∧ sl F w S2 ∧ (∀ k, S1 k → S2 k → False) ∧ (∀ k, S1 k → S k) ∧ (∀ k, S2 k → S k) := by
  induction hs with
  | n => exact fun {S} h => ⟨fun _ => False, S, trivial, h, fun _ a _ => a, fun _ a => a.elim, fun _ a => a⟩
  | c h1 _ ih =>
    intro S h
    obtain ⟨T1, T2, g1, g2, g3, g4, g5⟩ := sl_sel h1 h
    obtain ⟨S1, S2, e1, e2, e3, e4, e5⟩ := ih g2
    exact ⟨fun k => T1 k ∨ S1 k, S2, ⟨T1, S1, g1, e1, fun k a b => g3 k a (e4 k b), fun k a => .inl a, fun k a => .inr a⟩, e2, fun k a b => a.elim (fun a => g3 k a (e5 k b)) (fun a => e3 k a b), fun k a => a.elim (g4 k) (fun a => g5 k (e4 k a)), fun k a => g5 k (e5 k a)⟩
/-- One of a list, and what the list is with another in its place. -/
inductive U : List Asn → Asn → (Asn → List Asn) → Prop
  | h {A : Asn} {L : List Asn} : U (A :: L) A (fun X => X :: L)
  | t {A B : Asn} {L : List Asn} {K : Asn → List Asn} : U L A K → U (B :: L) A (fun X => B :: K X)
theorem sl_u {A : Asn} {L : List Asn} {K : Asn → List Asn} (hs : U L A K) : ∀ {w : World} {S : Fp}, sl L w S → ∃ S1 S2 : Fp, A.P w S1 ∧ (∀ k, S1 k → S2 k → False) ∧ (∀ k, S1 k → S k) ∧ (∀ k, S2 k → S k) ∧
    ∀ (B : Asn) (w' : World) (S1' : Fp) (S' : Fp), B.P w' S1' → (∀ k, S2 k → w'.heap[k]? = w.heap[k]?) → (∀ k, S1' k → S2 k → False) → (∀ k, S1' k → S' k) → (∀ k, S2 k → S' k) → sl (K B) w' S' := by
  induction hs with
  | h =>
    rintro w S ⟨S1, S2, h1, h2, h3, h4, h5⟩
    exact ⟨S1, S2, h1, h3, h4, h5, fun B w' S1' S' b1 b2 b3 b4 b5 => ⟨S1', S2, b1, sl_stab h2 b2, b3, b4, b5⟩⟩
  | t _ ih =>
    rintro w S ⟨S1, S2, h1, h2, h3, h4, h5⟩
    obtain ⟨T1, T2, g1, g3, g4, g5, g6⟩ := ih h2
    refine ⟨T1, fun k => S1 k ∨ T2 k, g1, fun k a b => b.elim (fun b => h3 k b (g4 k a)) (g3 k a), fun k a => h5 k (g4 k a), fun k a => a.elim (h4 k) fun a => h5 k (g5 k a), fun B w' S1' S' b1 b2 b3 b4 b5 => ?_⟩
    refine ⟨S1, fun k => S1' k ∨ T2 k, Asn.stab _ h1 fun k hk => b2 k (.inl hk), g6 B w' S1' _ b1 (fun k hk => b2 k (.inr hk)) (fun k a b => b3 k a (.inr b)) (fun k a => .inl a) (fun k a => .inr a), fun k a b => b.elim (fun b => b3 k b (.inl a)) (fun b => h3 k a (g5 k b)), fun k a => b5 k (.inl a), fun k a => a.elim (b4 k) (fun a => b5 k (.inr a))⟩
section
variable {A B0 B1 B2 B3 B4 B5 B6 B7 B8 B9 : Asn} {L : List Asn}
theorem p0 : U (A :: L) A (fun X => X :: L) := .h
theorem p1 : U (B0 :: A :: L) A (fun X => B0 :: X :: L) := .t .h
theorem p2 : U (B0 :: B1 :: A :: L) A (fun X => B0 :: B1 :: X :: L) := .t p1
theorem p3 : U (B0 :: B1 :: B2 :: A :: L) A (fun X => B0 :: B1 :: B2 :: X :: L) := .t p2
theorem p4 : U (B0 :: B1 :: B2 :: B3 :: A :: L) A (fun X => B0 :: B1 :: B2 :: B3 :: X :: L) := .t p3
theorem p5 : U (B0 :: B1 :: B2 :: B3 :: B4 :: A :: L) A (fun X => B0 :: B1 :: B2 :: B3 :: B4 :: X :: L) := .t p4
theorem p6 : U (B0 :: B1 :: B2 :: B3 :: B4 :: B5 :: A :: L) A (fun X => B0 :: B1 :: B2 :: B3 :: B4 :: B5 :: X :: L) := .t p5
theorem p7 : U (B0 :: B1 :: B2 :: B3 :: B4 :: B5 :: B6 :: A :: L) A (fun X => B0 :: B1 :: B2 :: B3 :: B4 :: B5 :: B6 :: X :: L) := .t p6
theorem p8 : U (B0 :: B1 :: B2 :: B3 :: B4 :: B5 :: B6 :: B7 :: A :: L) A (fun X => B0 :: B1 :: B2 :: B3 :: B4 :: B5 :: B6 :: B7 :: X :: L) := .t p7
theorem p9 : U (B0 :: B1 :: B2 :: B3 :: B4 :: B5 :: B6 :: B7 :: B8 :: A :: L) A (fun X => B0 :: B1 :: B2 :: B3 :: B4 :: B5 :: B6 :: B7 :: B8 :: X :: L) := .t p8
theorem q0 : Sel (A :: L) A L := .h
theorem q1 : Sel (B0 :: A :: L) A (B0 :: L) := .t .h
theorem q2 : Sel (B0 :: B1 :: A :: L) A (B0 :: B1 :: L) := .t q1
theorem q3 : Sel (B0 :: B1 :: B2 :: A :: L) A (B0 :: B1 :: B2 :: L) := .t q2
theorem q4 : Sel (B0 :: B1 :: B2 :: B3 :: A :: L) A (B0 :: B1 :: B2 :: B3 :: L) := .t q3
theorem q5 : Sel (B0 :: B1 :: B2 :: B3 :: B4 :: A :: L) A (B0 :: B1 :: B2 :: B3 :: B4 :: L) := .t q4
theorem q6 : Sel (B0 :: B1 :: B2 :: B3 :: B4 :: B5 :: A :: L) A (B0 :: B1 :: B2 :: B3 :: B4 :: B5 :: L) := .t q5
theorem q7 : Sel (B0 :: B1 :: B2 :: B3 :: B4 :: B5 :: B6 :: A :: L) A (B0 :: B1 :: B2 :: B3 :: B4 :: B5 :: B6 :: L) := .t q6
theorem q8 : Sel (B0 :: B1 :: B2 :: B3 :: B4 :: B5 :: B6 :: B7 :: A :: L) A (B0 :: B1 :: B2 :: B3 :: B4 :: B5 :: B6 :: B7 :: L) := .t q7
theorem q9 : Sel (B0 :: B1 :: B2 :: B3 :: B4 :: B5 :: B6 :: B7 :: B8 :: A :: L) A (B0 :: B1 :: B2 :: B3 :: B4 :: B5 :: B6 :: B7 :: B8 :: L) := .t q8
end

/-! ### the state -/
structure St (w0 : World) (S0 : Fp) (L : List Asn) (w : World) : Prop where
  chg : Mut S0 w0 w
  own : ∃ S : Fp, sl L w S ∧ ∀ k, S k → k < w.heap.size ∧ (S0 k ∨ w0.heap.size ≤ k)
abbrev Em : Fp := fun _ => False
section
variable {w0 w w' : World} {S0 : Fp} {L L' Lc LQ F : List Asn} {A : Asn} {K : Asn → List Asn} {g : Nat} {cs cs' : List Value} {t : TypeId}
theorem St.start {S : Fp} (h : sl L w S) (hl : ∀ k, S k → k < w.heap.size) : St w S L w := ⟨Mut.refl w, S, h, fun k hk => ⟨hl k hk, .inl hk⟩⟩
theorem St.nil (w : World) : St w Em [] w := St.start trivial (fun _ h => h.elim)
theorem St.below (H : St w0 Em L w) : Below w0.heap.size w0 w := H.chg.below (Nat.le_refl _) (fun _ h => h.elim)
theorem St.size (H : St w0 S0 L w) : w0.heap.size ≤ w.heap.size := H.chg.size
/-- What a part of it does, it does. -/
theorem St.split (H : St w0 S0 L w) (hs : Sels L Lc F) : ∃ S1 : Fp, sl Lc w S1 ∧ (∀ k, S1 k → k < w.heap.size) ∧ ∀ LQ w', St w S1 LQ w' → St w0 S0 (LQ ++ F) w' := by
  obtain ⟨hm, S, h, hl⟩ := H
  obtain ⟨S1, S2, e1, e2, e3, e4, e5⟩ := sl_sels hs h
  refine ⟨S1, e1, fun k hk => (hl k (e4 k hk)).1, fun LQ w' ⟨hm', S', h', hl'⟩ => ⟨?_, fun k => S' k ∨ S2 k, ?_, ?_⟩⟩
  · refine ⟨hm'.os.trans hm.os, hm'.tape.trans hm.tape, hm'.output.trans hm.output, Nat.le_trans hm.size hm'.size, fun k hk hn => (hm'.block k (Nat.lt_of_lt_of_le hk hm.size) fun h1 => ?_).trans (hm.block k hk hn)⟩
    rcases (hl k (e4 k h1)).2 with h2 | h2
    · exact hn h2
    · omega
  · have hd : ∀ k, S' k → S2 k → False := fun k a b => by
      rcases (hl' k a).2 with h1 | h1
      · exact e3 k h1 b
      · have := (hl k (e5 k b)).1
        omega
    exact sl_app h' (sl_stab e2 fun k hk => hm'.block k (hl k (e5 k hk)).1 fun h1 => e3 k h1 hk) hd (fun k a => .inl a) (fun k a => .inr a)
  · rintro k (hk | hk)
    · refine ⟨(hl' k hk).1, ?_⟩
      rcases (hl' k hk).2 with h1 | h1
      · exact (hl k (e4 k h1)).2
      · exact .inr (Nat.le_trans hm.size h1)
    · exact ⟨Nat.lt_of_lt_of_le (hl k (e5 k hk)).1 hm'.size, (hl k (e5 k hk)).2⟩
theorem St.sel (H : St w0 S0 L w) (hs : Sels L Lc F) : St w0 S0 Lc w := by
  obtain ⟨hm, S, h, hl⟩ := H
  obtain ⟨S1, S2, e1, e2, e3, e4, e5⟩ := sl_sels hs h
  exact ⟨hm, S1, e1, fun k hk => hl k (e4 k hk)⟩
/-- Nothing of its own is changed. -/
theorem St.step (H : St w0 S0 L w) (hb : Below w.heap.size w w') : St w0 S0 L w' := by
  obtain ⟨hm, S, h, hl⟩ := H
  exact ⟨hm.trans ((Mut.of_below hb).mono fun _ _ h => h.elim), S, sl_stab h fun k hk => hb.block k (hl k hk).1, fun k hk => ⟨Nat.lt_of_lt_of_le (hl k hk).1 hb.size, (hl k hk).2⟩⟩
theorem St.get (H : St w0 S0 L w) (hu : U L A K) : ∃ S : Fp, A.P w S ∧ ∀ k, S k → k < w.heap.size ∧ (S0 k ∨ w0.heap.size ≤ k) := by
  obtain ⟨hm, S, h, hl⟩ := H
  obtain ⟨S1, S2, g1, g3, g4, g5, g6⟩ := sl_u hu h
  exact ⟨S1, g1, fun k hk => hl k (g4 k hk)⟩
/-- One of its own is turned into another. -/
theorem St.upd {B : Asn} (H : St w0 S0 L w) (hu : U L A K) (h : ∀ S : Fp, A.P w S → (∀ k, S k → k < w.heap.size ∧ (S0 k ∨ w0.heap.size ≤ k)) → Mut S w w' ∧ ∃ S' : Fp, B.P w' S' ∧ ∀ k, S' k → k < w'.heap.size ∧ (S k ∨ w.heap.size ≤ k)) : St w0 S0 (K B) w' := by
  obtain ⟨hm, S, hS, hl⟩ := H
  obtain ⟨S1, S2, g1, g3, g4, g5, g6⟩ := sl_u hu hS
  obtain ⟨hm', S', hB, hl'⟩ := h S1 g1 (fun k hk => hl k (g4 k hk))
  have hd : ∀ k, S' k → S2 k → False := fun k a b => by
    rcases (hl' k a).2 with h1 | h1
    · exact g3 k h1 b
    · have := (hl k (g5 k b)).1
      omega
  refine ⟨?_, fun k => S' k ∨ S2 k, g6 B w' S' _ hB (fun k hk => hm'.block k (hl k (g5 k hk)).1 fun h1 => g3 k h1 hk) hd (fun k a => .inl a) (fun k a => .inr a), ?_⟩
  · refine ⟨hm'.os.trans hm.os, hm'.tape.trans hm.tape, hm'.output.trans hm.output, Nat.le_trans hm.size hm'.size, fun k hk hn => (hm'.block k (Nat.lt_of_lt_of_le hk hm.size) fun h1 => ?_).trans (hm.block k hk hn)⟩
    rcases (hl k (g4 k h1)).2 with h2 | h2
    · exact hn h2
    · omega
  · rintro k (hk | hk)
    · refine ⟨(hl' k hk).1, ?_⟩
      rcases (hl' k hk).2 with h1 | h1
      · exact (hl k (g4 k h1)).2
      · exact .inr (Nat.le_trans hm.size h1)
    · exact ⟨Nat.lt_of_lt_of_le (hl k (g5 k hk)).1 hm'.size, (hl k (g5 k hk)).2⟩
/-- One more of its own. -/
theorem St.new {B : Asn} (H : St w0 S0 L w) (hm' : Mut Em w w') {S' : Fp} (hB : B.P w' S') (hl' : ∀ k, S' k → k < w'.heap.size ∧ w.heap.size ≤ k) : St w0 S0 (B :: L) w' := by
  obtain ⟨hm, S, hS, hl⟩ := H
  refine ⟨hm.trans (hm'.mono fun _ _ h => h.elim), fun k => S' k ∨ S k, ⟨S', S, hB, sl_stab hS fun k hk => hm'.block k (hl k hk).1 fun h => h, fun k a b => ?_, fun k a => .inl a, fun k a => .inr a⟩, ?_⟩
  · have := (hl' k a).2
    have := (hl k b).1
    omega
  · rintro k (hk | hk)
    · exact ⟨(hl' k hk).1, .inr (Nat.le_trans hm.size (hl' k hk).2)⟩
    · exact ⟨Nat.lt_of_lt_of_le (hl k hk).1 hm'.size, (hl k hk).2⟩
/-- The same memory, otherwise told. -/
theorem St.imp {B : Asn} (H : St w0 S0 L w) (hu : U L A K) (h : ∀ S : Fp, A.P w S → (∀ k, S k → k < w.heap.size) → B.P w S) : St w0 S0 (K B) w :=
  H.upd hu fun S hA hl => ⟨Mut.refl w |>.mono fun _ _ h => h, S, h S hA (fun k hk => (hl k hk).1), fun k hk => ⟨(hl k hk).1, .inl hk⟩⟩
theorem St.emp {B : Asn} (H : St w0 S0 L w) (h : B.P w Em) : St w0 S0 (B :: L) w := H.new (Mut.refl w) h (fun _ h => h.elim)

/-! ### blocks -/
def Bk (g : Nat) (cs : List Value) (t : TypeId) : Asn where
  P := fun w S => Blk w g cs t ∧ S g
  stab := fun h hk => ⟨(hk g h.2).trans h.1, h.2⟩
  mono := fun h hk => ⟨h.1, hk g h.2⟩
theorem St.blk (H : St w0 S0 L w) (hu : U L (Bk g cs t) K) : Blk w g cs t := (H.get hu).elim fun _ h => h.1.1
theorem St.cell {j : Nat} {v : Value} (H : St w0 S0 L w) (hu : U L (Bk g cs t) K) (hj : cs[j]? = some v) : w.cell? ⟨g, j, none⟩ = some v := (H.blk hu).cell j v hj
theorem St.cells (H : St w0 S0 L w) (hu : U L (Bk g cs t) K) (j : Nat) (u : Value) (hj : cs[j]? = some u) : w.cell? ((⟨g, 0, none⟩ : Addr).add j) = some u := (H.blk hu).cells j u hj
theorem St.part {off n : Nat} (H : St w0 S0 L w) (hu : U L (Bk g cs t) K) (j : Nat) (u : Value) (hj : ((cs.drop off).take n)[j]? = some u) : w.cell? ((⟨g, off, none⟩ : Addr).add j) = some u := by
  have e : (⟨g, off, none⟩ : Addr).add j = ⟨g, off + j, none⟩ := by unfold Addr.add; split <;> simp_all
  rw [e]
  refine (H.blk hu).cell _ _ ?_
  rw [List.getElem?_take] at hj
  split at hj
  · rwa [List.getElem?_drop] at hj
  · simp at hj
theorem St.lt (H : St w0 S0 L w) (hu : U L (Bk g cs t) K) : g < w.heap.size := (H.blk hu).lt
theorem St.block_new (H : St w0 S0 L w) (hb : Blk w' w.heap.size cs t) (hs : w'.heap.size = w.heap.size + 1) (hm : Mut Em w w') : St w0 S0 (Bk w.heap.size cs t :: L) w' :=
  H.new (B := Bk w.heap.size cs t) hm (S' := fun k => k = w.heap.size) ⟨hb, rfl⟩ (fun k hk => by subst hk; omega)
theorem St.block_set (H : St w0 S0 L w) (hu : U L (Bk g cs t) K) (hb : Blk w' g cs' t) (hm : Mut (fun k => k = g) w w') : St w0 S0 (K (Bk g cs' t)) w' :=
  H.upd hu fun S hA hl => ⟨hm.mono fun k _ hk => by subst hk; exact hA.2, fun k => k = g, ⟨hb, rfl⟩, fun k hk => by subst hk; exact ⟨hb.lt, .inl hA.2⟩⟩
end

/-! ### one cell, or some, of a block's, put -/
inductive Put : List Value → Nat → Value → List Value → Prop
  | z {x v : Value} {xs : List Value} : Put (x :: xs) 0 v (v :: xs)
  | s {x v : Value} {xs ys : List Value} {j : Nat} : Put xs j v ys → Put (x :: xs) (j + 1) v (x :: ys)
theorem Put.set {cs cs' : List Value} {j : Nat} {v : Value} (h : Put cs j v cs') : cs' = cs.set j v ∧ j < cs.length := by
  induction h with
  | z => simp
  | s _ ih => simp [ih.1, ih.2]

/-! ### the walk's rules -/
section
variable {P : Program} {f : FuncId} {n : Nat} {R : Ending → World → Prop} {k : List Item} {τ : Tm} {w0 w : World} {S0 : Fp} {L Lc F : List Asn} {K : Asn → List Asn} {ops : Array Oper} {i : Nat} {rest : List Nat} {o : Oper}
theorem WO.sbox (d : Nat) {t : TypeId} {x : Operand} {cs : List Value} (ho : ops[i]? = some o) (hk : okOp n ops τ o d true = true) (hop : o.op = .box t x) (hx : (ev τ x).cells = cs.toArray) (H : St w0 S0 L w)
    (h : ∀ g w', St w0 S0 (Bk g cs t :: L) w' → WO P f n R ops k rest (upd τ d (.pointer (some ⟨g, 0, none⟩))) w') : WO P f n R ops k (i :: rest) τ w :=
  WO.box_ d ho hk hop hx fun g w' hg hs hb hm => by subst hg; exact h _ _ (H.block_new hb hs hm)
theorem WO.salloc (d : Nat) {t : TypeId} {z : Value} {cs : List Value} (ho : ops[i]? = some o) (hk : okOp n ops τ o d true = true) (hop : o.op = .alloc t) (hz : ∀ w, (zeroValue t).run P w = .ok z w) (hx : z.cells = cs.toArray) (H : St w0 S0 L w)
    (h : ∀ g w', St w0 S0 (Bk g cs t :: L) w' → WO P f n R ops k rest (upd τ d (.pointer (some ⟨g, 0, none⟩))) w') : WO P f n R ops k (i :: rest) τ w :=
  WO.alloc_ d ho hk hop hz hx fun g w' hg hs hb hm => by subst hg; exact h _ _ (H.block_new hb hs hm)
theorem WO.sstore {t : TypeId} {x y : Operand} {g j : Nat} {cs cs' : List Value} {t' : TypeId} {v : Value} (ho : ops[i]? = some o) (hk : okOp0 ops τ o = true) (hop : o.op = .store t x y) (hx : ev τ x = .pointer (some ⟨g, j, none⟩)) (hy : ev τ y = v) (h1 : v.oneCell' = true)
    (hz : ∀ w, (sizeOf t).run P w = .ok 1 w) (H : St w0 S0 L w) (hu : U L (Bk g cs t') K) (hp : Put cs j v cs')
    (h : ∀ w', St w0 S0 (K (Bk g cs' t')) w' → WO P f n R ops k rest τ w') : WO P f n R ops k (i :: rest) τ w :=
  WO.store_ ho hk hop hx hy h1 hz (H.blk hu) hp.set.2 fun w' hs hb hm => h w' (H.block_set hu (by rw [hp.set.1]; exact hb) hm)
theorem WO.sstoreK {t : TypeId} {x y : Operand} {g sz : Nat} {cs vs : List Value} {t' : TypeId} {v : Value} (ho : ops[i]? = some o) (hk : okOp0 ops τ o = true) (hop : o.op = .store t x y) (hx : ev τ x = .pointer (some ⟨g, 0, none⟩)) (hy : ev τ y = v) (hv : v.cells = vs.toArray)
    (h1 : vs.all (fun u => u.oneCell') = true) (hz : ∀ w, (sizeOf t).run P w = .ok sz w) (hsz : vs.length = sz) (H : St w0 S0 L w) (hu : U L (Bk g cs t') K) (hj : cs.length = sz)
    (h : ∀ w', St w0 S0 (K (Bk g vs t')) w' → WO P f n R ops k rest τ w') : WO P f n R ops k (i :: rest) τ w :=
  WO.storeK_ ho hk hop hx hy hv (fun u hu => by simpa using List.all_eq_true.1 h1 u hu) hz hsz (H.blk hu) hj fun w' hs hb hm => h w' (H.block_set hu hb hm)

/-! ### calls -/
/-- What a function does with memory that it is given. -/
def Tri (P : Program) (f : FuncId) (args : Array Value) (w : World) (L : List Asn) (Q : Ending → List Asn → Prop) : Prop :=
  ∀ S : Fp, sl L w S → (∀ k, S k → k < w.heap.size) → Calls P f args w fun e w' => ∃ LQ, Q e LQ ∧ St w S LQ w'
theorem Tri.mono {args : Array Value} {Q Q' : Ending → List Asn → Prop} (h : Tri P f args w L Q) (hq : ∀ e l, Q e l → Q' e l) : Tri P f args w L Q' :=
  fun S hS hl => (h S hS hl).mono fun e w' ⟨LQ, h1, h2⟩ => ⟨LQ, hq e LQ h1, h2⟩
theorem tri_of_run {fn : Func} {c : Code} {args : Array Value} {Q : Ending → List Asn → Prop} (hf : P.funcs[f]? = some fn) (hb : fn.body = some c) (hn : fn.ntmps = n) (hs : args.size ≤ n)
    (h : ∀ S, St w S L w → Run P f n (fun e w' => ∃ LQ, Q e LQ ∧ St w S LQ w') [.code c] (start args) w) : Tri P f args w L Q :=
  fun S hS hl => calls_of_run hf hb hn hs (h S (St.start hS hl))
theorem Mut.em {w w' : World} {S : Fp} (h : Mut Em w w') : Mut S w w' := h.mono fun _ _ h => h.elim
/-- A function that is given nothing. -/
theorem tri_of_run0 {fn : Func} {c : Code} {args : Array Value} {Q : Ending → List Asn → Prop} (hf : P.funcs[f]? = some fn) (hb : fn.body = some c) (hn : fn.ntmps = n) (hs : args.size ≤ n)
    (h : St w Em [] w → Run P f n (fun e w' => ∃ LQ, Q e LQ ∧ St w Em LQ w') [.code c] (start args) w) : Tri P f args w [] Q :=
  fun S hS hl => (calls_of_run hf hb hn hs (h (St.nil w))).mono fun e w' ⟨LQ, h1, h2, S', h3, h4⟩ => ⟨LQ, h1, h2.em, S', h3, fun k hk => ⟨(h4 k hk).1, (h4 k hk).2.elim (fun h => h.elim) .inr⟩⟩
/-- A reading function's contract. -/
theorem Tri.calls {args : Array Value} {Q : Ending → List Asn → Prop} (h : Tri P f args w [] Q) : Calls P f args w fun e w' => ∃ LQ, Q e LQ ∧ St w Em LQ w' := h Em trivial (fun _ h => h.elim)
theorem Calls.use {g : FuncId} {vs : Array Value} {Q : Ending → List Asn → Prop} (H : St w0 S0 L w) (hs : Sels L Lc F) (hc : Tri P g vs w Lc Q) : Calls P g vs w fun e w2 => ∃ LQ, Q e LQ ∧ St w0 S0 (LQ ++ F) w2 := by
  obtain ⟨S1, h1, h2, h3⟩ := H.split hs
  exact (hc S1 h1 h2).mono fun e w2 ⟨LQ, hq, hst⟩ => ⟨LQ, hq, h3 LQ w2 hst⟩
theorem WO.scall (d : Nat) {g : FuncId} {args : Array Operand} {ts : Array TypeId} {vs : Array Value} {Q : Ending → List Asn → Prop} (ho : ops[i]? = some o) (hk : okOp n ops τ o d true = true) (he : ∀ args w, (callFunc g args).run P w = .ok (.enter g args) w)
    (H : St w0 S0 L w) (hs : Sels L Lc F) (hc : Tri P g vs w Lc Q)
    (hop : o.op = .call { callee := .value (.func g), args := args, argTypes := ts }) (hvs : (args.toList.map (ev τ)).toArray = vs)
    (h : ∀ e LQ w2, Q e LQ → St w0 S0 (LQ ++ F) w2 → ∃ v, e = .returned v ∧ WO P f n R ops k rest (upd τ d v) w2) : WO P f n R ops k (i :: rest) τ w :=
  WO.c d ho hk (Calls.use H hs hc) (r_call hop rfl hvs he) (fun e w2 ⟨LQ, h1, h2⟩ => h e LQ w2 h1 h2)
end
end Go.Proofs.Ytojpimpfpjhflaa.Fw
