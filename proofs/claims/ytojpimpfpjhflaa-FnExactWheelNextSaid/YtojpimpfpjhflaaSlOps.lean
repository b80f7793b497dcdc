/- The walk's rules over rows that are owned: append, make, a store into an element, a row put into a row. -/
import Derived.Test.YtojpimpfpjhflaaSlRow
namespace Go.Proofs.Ytojpimpfpjhflaa.Fw
open Go Go.RowKit Go.Proofs.YtojpimpfpjhflaaW.PrintWords
set_option linter.unusedVariables false
set_option linter.unusedSimpArgs false

section
variable {w0 w w' : World} {S0 : Fp} {L F : List Asn} {K : Asn → List Asn} {A B : Asn}
theorem St.opn (H : St w0 S0 L w) (hu : U L A K) : ∃ S : Fp, A.P w S ∧ (∀ k, S k → k < w.heap.size) ∧
    ∀ (B : Asn) (w' : World) (S' : Fp), Mut S w w' → B.P w' S' → (∀ k, S' k → k < w'.heap.size ∧ (S k ∨ w.heap.size ≤ k)) → St w0 S0 (K B) w' := by
  obtain ⟨hm, S, hS, hl⟩ := H
  obtain ⟨S1, S2, g1, g3, g4, g5, g6⟩ := sl_u hu hS
  refine ⟨S1, g1, fun k hk => (hl k (g4 k hk)).1, fun B w' S' hm' hB hl' => ?_⟩
  have hd : ∀ k, S' k → S2 k → False := fun k a b => by
    rcases (hl' k a).2 with h1 | h1
    · exact g3 k h1 b
    · have := (hl k (g5 k b)).1
      omega
  refine ⟨?_, fun k => S' k ∨ S2 k, g6 B w' S' _ hB (fun k hk => hm'.block k (hl k (g5 k hk)).1 fun h1 => g3 k h1 hk) hd (fun k a => .inl a) (fun k a => .inr a), ?_⟩
  · refine ⟨hm'.os.trans hm.os, hm'.tape.trans hm.tape, hm'.output.trans hm.output, Nat.le_trans hm.size hm'.size, fun k hk hn => (hm'.block k (Nat.lt_of_lt_of_le hk hm.size) fun h1 => ?_).trans (hm.block k hk hn)⟩
    rcases (hl k (g4 k h1)).2 with h2 | h2
    · exact hn h2
    · omega
  · rintro k (hk | hk)
    · refine ⟨(hl' k hk).1, ?_⟩
      rcases (hl' k hk).2 with h1 | h1
      · exact (hl k (g4 k h1)).2
      · exact .inr (Nat.le_trans hm.size h1)
    · exact ⟨Nat.lt_of_lt_of_le (hl k (g5 k hk)).1 hm'.size, (hl k (g5 k hk)).2⟩
theorem St.opn2 (H : St w0 S0 (A :: F) w) (hu : U F B K) : ∃ S1 S2 : Fp, A.P w S1 ∧ B.P w S2 ∧ (∀ k, S1 k → S2 k → False) ∧ (∀ k, S1 k ∨ S2 k → k < w.heap.size) ∧
    ∀ (C : Asn) (w' : World) (S' : Fp), Mut (fun k => S1 k ∨ S2 k) w w' → C.P w' S' → (∀ k, S' k → k < w'.heap.size ∧ ((S1 k ∨ S2 k) ∨ w.heap.size ≤ k)) → St w0 S0 (K C) w' := by
  obtain ⟨hm, S, ⟨T1, T2, t1, t2, t3, t4, t5⟩, hl⟩ := H
  obtain ⟨S1, S2, g1, g3, g4, g5, g6⟩ := sl_u hu t2
  have hlt : ∀ k, T1 k ∨ S1 k → S k := fun k hk => hk.elim (t4 k) (fun hk => t5 k (g4 k hk))
  refine ⟨T1, S1, t1, g1, fun k a b => t3 k a (g4 k b), fun k hk => (hl k (hlt k hk)).1, fun C w' S' hm' hB hl' => ?_⟩
  have hd2 : ∀ k, (T1 k ∨ S1 k) → S2 k → False := fun k a b => a.elim (fun a => t3 k a (g5 k b)) (fun a => g3 k a b)
  have hd : ∀ k, S' k → S2 k → False := fun k a b => by
    rcases (hl' k a).2 with h1 | h1
    · exact hd2 k h1 b
    · have := (hl k (t5 k (g5 k b))).1
      omega
  refine ⟨?_, fun k => S' k ∨ S2 k, g6 C w' S' _ hB (fun k hk => hm'.block k (hl k (t5 k (g5 k hk))).1 fun h1 => hd2 k h1 hk) hd (fun k a => .inl a) (fun k a => .inr a), ?_⟩
  · refine ⟨hm'.os.trans hm.os, hm'.tape.trans hm.tape, hm'.output.trans hm.output, Nat.le_trans hm.size hm'.size, fun k hk hn => (hm'.block k (Nat.lt_of_lt_of_le hk hm.size) fun h1 => ?_).trans (hm.block k hk hn)⟩
    rcases (hl k (hlt k h1)).2 with h2 | h2
    · exact hn h2
    · omega
  · rintro k (hk | hk)
    · refine ⟨(hl' k hk).1, ?_⟩
      rcases (hl' k hk).2 with h1 | h1
      · exact (hl k (hlt k h1)).2
      · exact .inr (Nat.le_trans hm.size h1)
    · exact ⟨Nat.lt_of_lt_of_le (hl k (t5 k (g5 k hk))).1 hm'.size, (hl k (t5 k (g5 k hk))).2⟩
end

/-! ### what is read, as cells -/
section
variable {α : Type} {d : Kd α} {o : Ow d} {w w' : World}
theorem cells_of_rows (sz : Nat) (ad : Addr) (Kk : α → List Value → Prop) : ∀ (xs : List α) (off : Nat), (∀ j p, xs[j]? = some p → ∃ c, c.length = sz ∧ Kk p c ∧ ∀ i u, c[i]? = some u → w.cell? (ad.add ((off + j) * sz + i)) = some u) →
    ∃ nss : List (List Value), nss.length = xs.length ∧ (∀ vs ∈ nss, vs.length = sz) ∧ (∀ (j : Nat) (x : α) (vs : List Value), xs[j]? = some x → nss[j]? = some vs → Kk x vs) ∧ ∀ j u, nss.flatten[j]? = some u → w.cell? (ad.add (off * sz + j)) = some u
  | [], off, _ => ⟨[], rfl, fun _ h => absurd h List.not_mem_nil, fun j x vs h => by simp at h, fun j u h => by simp at h⟩
  | x :: xs, off, h => by
    obtain ⟨c, hc, hk, hcell⟩ := h 0 x rfl
    obtain ⟨nss, h1, h2, h3, h4⟩ := cells_of_rows sz ad Kk xs (off + 1) (fun j p hj => by
      obtain ⟨c, a, b, e⟩ := h (j + 1) p hj
      exact ⟨c, a, b, fun i u hu => by rw [show off + 1 + j = off + (j + 1) by omega]; exact e i u hu⟩)
    refine ⟨c :: nss, by simp [h1], fun vs hv => (List.mem_cons.1 hv).elim (fun e => by rw [e]; exact hc) (h2 vs), ?_, fun j u hj => ?_⟩
    · rintro (_ | j) y vs hy hv
      · simp at hy hv
        subst hy hv
        exact hk
      · exact h3 j y vs (by simpa using hy) (by simpa using hv)
    · rw [List.flatten_cons] at hj
      rcases Nat.lt_or_ge j c.length with hlt | hge
      · rw [List.getElem?_append_left hlt] at hj
        simpa using hcell j u hj
      · rw [List.getElem?_append_right hge] at hj
        have := h4 _ u hj
        rwa [hc, show (off + 1) * sz + (j - sz) = off * sz + j by rw [Nat.add_mul]; omega] at this
theorem C_cells {A : Option Addr} {n : Nat} {xs : List α} (h : d.C w A n xs) : ∃ nss : List (List Value), nss.length = xs.length ∧ (∀ vs ∈ nss, vs.length = d.sz) ∧ (∀ (j : Nat) (x : α) (vs : List Value), xs[j]? = some x → nss[j]? = some vs → d.K w x vs) ∧
    (∀ ad, A = some ad → ∀ j u, nss.flatten[j]? = some u → w.cell? (ad.add j) = some u) ∧ (A = none → xs = []) := by
  obtain ⟨h1, h2, h3⟩ := h
  cases xs with
  | nil => exact ⟨[], rfl, fun _ h => absurd h List.not_mem_nil, fun j x vs h => by simp at h, fun ad _ j u h => by simp at h, fun _ => rfl⟩
  | cons x xs =>
    obtain ⟨ad, rfl, hc⟩ := h3 (by rw [← h1]; simp)
    obtain ⟨nss, g1, g2, g3, g4⟩ := cells_of_rows d.sz ad (d.K w) (x :: xs) 0 (fun j p hj => by
      obtain ⟨c, a, b, e⟩ := hc j p hj
      exact ⟨c, a, b, fun i u hu => by rw [Nat.zero_add]; exact e i u hu⟩)
    exact ⟨nss, g1, g2, g3, fun ad' e j u hj => by cases e; simpa using g4 j u hj, fun e => by cases e⟩
/-- One cell's row, or one element's, as it is read. -/
theorem C_one {x : α} {cs : List Value} {ad : Addr} (hk : d.K w x cs) (hc : ∀ j u, cs[j]? = some u → w.cell? (ad.add j) = some u) : d.C w (some ad) [x].length [x] := by
  refine ⟨rfl, by simp, fun _ => ⟨ad, rfl, fun j p hj => ?_⟩⟩
  cases j with
  | zero =>
    simp at hj
    subst hj
    exact ⟨cs, d.K_len hk, hk, fun i u hu => by simpa using hc i u hu⟩
  | succ j => simp at hj
end

/-! ### append -/
section
variable {P : Program} {f : FuncId} {n : Nat} {R : Ending → World → Prop} {k : List Item} {τ : Tm} {w0 w : World} {S0 : Fp} {L F : List Asn} {K : Asn → List Asn} {ops : Array Oper} {i : Nat} {rest : List Nat} {o : Oper}
variable {α β : Type} {dk : Kd α} {ow : Ow dk}
/-- What append comes to: elements that are flat, out of a row that is read. -/
theorem append_flat {t ty e : TypeId} {z : Value} {bytes c c2 : Nat} {A A2 : Option Addr} {xs news : List α}
    (ht : P.underlying t = some (.slice e)) (hinfo : (P.info? e).map (fun i => (i.zero, i.size, i.bytes)) = some (some z, dk.sz, bytes)) (hzs : z.cells.size = dk.sz) (hsz : 0 < dk.sz)
    (hfl : Flat ow) (H : St w0 S0 L w) (hu : U L (Rw ow e (.slice A xs.length c) xs) K) (hsrc : dk.C w A2 news.length news) (hbytes : (xs.length + news.length) * bytes ≤ 140737488355328) (hlen : xs.length + news.length ≤ 9223372036854775807) :
    ∃ A' c' w', (Builtin.append_ #[t, t] ty #[.slice A xs.length c, .slice A2 news.length c2]).run P w = .ok (.slice A' (xs ++ news).length c') w' ∧ St w0 S0 (K (Rw ow e (.slice A' (xs ++ news).length c') (xs ++ news))) w' := by
  obtain ⟨inf, hi, hzz⟩ := Option.map_eq_some_iff.1 hinfo
  simp only [Prod.mk.injEq] at hzz
  obtain ⟨hz, hsize, hby⟩ := hzz
  obtain ⟨S, ⟨vss, h1, h2, h3⟩, hl, hre⟩ := H.opn hu
  obtain ⟨nss, g1, g2, g3, g4, g5⟩ := C_cells hsrc
  have hfl2 : nss.flatten.length = news.length * dk.sz := by rw [flat_len g2, g1]
  have hone : ∀ u ∈ nss.flatten, u.oneCell' = true := by
    intro u hu'
    obtain ⟨vs, hv, hu''⟩ := List.mem_flatten.1 hu'
    obtain ⟨j, hj, e⟩ := List.getElem_of_mem hv
    obtain ⟨x, hx⟩ : ∃ x, news[j]? = some x := ⟨_, List.getElem?_eq_getElem (by omega)⟩
    exact dk.K_one (g3 j x vs hx (by rw [List.getElem?_eq_getElem hj, e])) u hu''
  have key : ∃ v' w', (Builtin.append_ #[t, t] ty #[.slice A xs.length c, .slice A2 news.length c2]).run P w = .ok v' w' ∧ w'.ownsRow 0 e dk.sz v' (xs.length + news.length) (vss.flatten ++ nss.flatten) ∧ Mut (fun k => some k = (Value.slice A xs.length c).ownBlock) w w' ∧
      (v'.ownBlock = (Value.slice A xs.length c).ownBlock ∨ v'.ownBlock = some w.heap.size) := by
    cases A2 with
    | none =>
      have hn := g5 rfl
      subst hn
      have hnn : nss = [] := List.eq_nil_of_length_eq_zero g1
      subst hnn
      refine ⟨.slice A xs.length c, w, ?_, by simpa using h2, Mut.refl w, .inl rfl⟩
      rcases h2.2 with ⟨he, h0⟩ | ⟨g, cap, cur, he, _, _, hnc, _⟩
      · rw [he]
        simp [Builtin.append_, run_underlying ht, sizeOf, typeInfo, hi, Builtin.lenOf, Builtin.firstCells]
      · cases he
        simp [Builtin.append_, run_underlying ht, sizeOf, typeInfo, hi, Builtin.lenOf, Builtin.firstCells, hnc, storeCells]
    | some ad =>
      obtain ⟨v', w', hr, e2, e3, _, e5⟩ := run_append_own_at (P := P) w 0 t ty e inf z dk.sz bytes ht hi hz hsize hby hzs hsz _ _ _ h2 ad news.length c2 nss.flatten hfl2 (g4 ad rfl) hone (by simp only [maxLen]; omega) hbytes (Nat.zero_le _)
      exact ⟨v', w', hr, e2, Mut.of_grown e3, e5⟩
  obtain ⟨v', w', hr, hown, hmut, hat_⟩ := key
  obtain ⟨A', c', rfl, hnc⟩ := own_slice_ hown
  have el : xs.length + news.length = (xs ++ news).length := by simp
  rw [el] at hr hown hat_
  have hb' : ∀ k, (Value.slice A' (xs ++ news).length c').ownBlock = some k → k < w'.heap.size := fun k hk => own_lt hown k hk
  refine ⟨A', c', w', hr, hre (Rw ow e (.slice A' (xs ++ news).length c') (xs ++ news)) w' (fun k => S k ∨ (Value.slice A' (xs ++ news).length c').ownBlock = some k) (hmut.mono fun k _ hk => h1 k hk.symm) ⟨vss ++ nss, fun k hk => .inr hk, by rw [List.flatten_append]; exact hown, ?_⟩ fun k hk => ?_⟩
  · refine bigs_app (S1 := fun k => S k ∧ some k ≠ (Value.slice A xs.length c).ownBlock) (S2 := Em) (bigs_stab h3 fun k hk => hmut.block k (hl k hk.1) hk.2) (bigs_flat hfl g1 fun j x vs hx hv => ow.toK (ow.stab (w' := w') (hfl (g3 j x vs hx hv)) fun _ h => h.elim)) (fun _ _ h => h) (fun k hk => ⟨.inl hk.1, fun e => ?_⟩) (fun _ h => h.elim)
    · have e' := e
      rcases hat_ with h | h
      · exact hk.2 (e'.trans h)
      · rw [h] at e'
        have e := e'
        have := hl k hk.1
        simp at e
        omega
  · rcases hk with hk | hk
    · exact ⟨Nat.lt_of_lt_of_le (hl k hk) hmut.size, .inl hk⟩
    · refine ⟨hb' k hk, ?_⟩
      rcases hat_ with h | h
      · exact .inl (h1 k (h ▸ hk))
      · have hk' := hk
        rw [h] at hk'
        simp at hk'
        exact .inr (by omega)
/-- append of one element with what it owns. -/
theorem append_own1 {t ty e : TypeId} {z : Value} {bytes c c2 : Nat} {A : Option Addr} {ad : Addr} {xs : List α} {x : α} {vs : List Value}
    (ht : P.underlying t = some (.slice e)) (hinfo : (P.info? e).map (fun i => (i.zero, i.size, i.bytes)) = some (some z, dk.sz, bytes)) (hzs : z.cells.size = dk.sz) (hsz : 0 < dk.sz)
    (H : St w0 S0 (El ow x vs :: F) w) (hu : U F (Rw ow e (.slice A xs.length c) xs) K) (hsrc : ∀ j u, vs[j]? = some u → w.cell? (ad.add j) = some u) (hbytes : (xs.length + 1) * bytes ≤ 140737488355328) (hlen : xs.length + 1 ≤ 9223372036854775807) :
    ∃ A' c' w', (Builtin.append_ #[t, t] ty #[.slice A xs.length c, .slice (some ad) 1 c2]).run P w = .ok (.slice A' (xs ++ [x]).length c') w' ∧ St w0 S0 (K (Rw ow e (.slice A' (xs ++ [x]).length c') (xs ++ [x]))) w' := by
  obtain ⟨inf, hi, hzz⟩ := Option.map_eq_some_iff.1 hinfo
  simp only [Prod.mk.injEq] at hzz
  obtain ⟨hz, hsize, hby⟩ := hzz
  obtain ⟨S1, S, hx, ⟨vss, h1, h2, h3⟩, hd, hl, hre⟩ := H.opn2 hu
  obtain ⟨v', w', hr, hown, e3, _, hat_⟩ := run_append_own_at (P := P) w 0 t ty e inf z dk.sz bytes ht hi hz hsize hby hzs hsz _ _ _ h2 ad 1 c2 vs (by rw [ow.len hx, Nat.one_mul]) hsrc (ow.one hx) (by simp only [maxLen]; omega) hbytes (Nat.zero_le _)
  have hmut := Mut.of_grown e3
  obtain ⟨A', c', rfl, hnc⟩ := own_slice_ hown
  have el : xs.length + 1 = (xs ++ [x]).length := by simp
  rw [el] at hr hown hat_
  refine ⟨A', c', w', hr, hre (Rw ow e (.slice A' (xs ++ [x]).length c') (xs ++ [x])) w' (fun k => (S1 k ∨ S k) ∨ (Value.slice A' (xs ++ [x]).length c').ownBlock = some k) (hmut.mono fun k _ hk => .inr (h1 k hk.symm)) ⟨vss ++ [vs], fun k hk => .inr hk, by rw [List.flatten_append]; simpa using hown, ?_⟩ fun k hk => ?_⟩
  · have hne : ∀ k, k < w.heap.size → some k ≠ (Value.slice A xs.length c).ownBlock → some k ≠ (Value.slice A' (xs ++ [x]).length c').ownBlock := fun k hk hn e => by
      rcases hat_ with h | h
      · rw [h] at e
        exact hn e
      · rw [h] at e
        simp at e
        omega
    have hs1 : ∀ k, S1 k → some k ≠ (Value.slice A xs.length c).ownBlock := fun k hk e => hd k hk (h1 k e.symm)
    refine bigs_app (S1 := fun k => S k ∧ some k ≠ (Value.slice A xs.length c).ownBlock) (S2 := S1) (bigs_stab h3 fun k hk => hmut.block k (hl k (.inr hk.1)) hk.2) ⟨S1, Em, ow.stab hx (fun k hk => hmut.block k (hl k (.inl hk)) (hs1 k hk)), trivial, fun _ _ h => h, fun _ h => h, fun _ h => h.elim⟩ (fun k a b => hd k b a.1) (fun k hk => ⟨.inl (.inr hk.1), hne k (hl k (.inr hk.1)) hk.2⟩) (fun k hk => ⟨.inl (.inl hk), hne k (hl k (.inl hk)) (hs1 k hk)⟩)
  · rcases hk with hk | hk
    · exact ⟨Nat.lt_of_lt_of_le (hl k hk) hmut.size, .inl hk⟩
    · refine ⟨own_lt hown k hk, ?_⟩
      rcases hat_ with h | h
      · exact .inl (.inr (h1 k (h ▸ hk)))
      · have hk' := hk
        rw [h] at hk'
        simp at hk'
        exact .inr (by omega)
theorem r_append {t : TypeId} {s x : Operand} {v1 v2 v : Value} {w' : World} {ρ : Operand → Value} (hop : o.op = .call { callee := .builtin .append, args := #[s, x], argTypes := #[t, t] }) (hs : ρ s = v1) (hx : ρ x = v2) (hr : (Builtin.append_ #[t, t] o.type #[v1, v2]).run P w = .ok v w') :
    (execOp ρ o).run P w = .ok (.value v) w' := by
  simp only [execOp, hop, resolve, invoke, builtin, Sem.run_bind, Sem.run_pure, Sem.run_pure', Result.andThen_ok, List.map_toArray, List.map_cons, List.map_nil, hs, hx, hr]
theorem WO.sappend (d : Nat) {t e : TypeId} {z : Value} {bytes c c2 : Nat} {s x : Operand} {A A2 : Option Addr} {xs news : List α} (ho : ops[i]? = some o) (hk : okOp n ops τ o d true = true)
    (hop : o.op = .call { callee := .builtin .append, args := #[s, x], argTypes := #[t, t] }) (ht : P.underlying t = some (.slice e)) (hinfo : (P.info? e).map (fun i => (i.zero, i.size, i.bytes)) = some (some z, dk.sz, bytes)) (hzs : z.cells.size = dk.sz) (hsz : 0 < dk.sz)
    (hs : ev τ s = .slice A xs.length c) (hx : ev τ x = .slice A2 news.length c2) (hfl : Flat ow) (H : St w0 S0 L w) (hu : U L (Rw ow e (.slice A xs.length c) xs) K) (hsrc : dk.C w A2 news.length news) (hbytes : (xs.length + news.length) * bytes ≤ 140737488355328) (hlen : xs.length + news.length ≤ 9223372036854775807)
    (h : ∀ A' c' w', St w0 S0 (K (Rw ow e (.slice A' (xs ++ news).length c') (xs ++ news))) w' → WO P f n R ops k rest (upd τ d (.slice A' (xs ++ news).length c')) w') : WO P f n R ops k (i :: rest) τ w := by
  obtain ⟨A', c', w', hr, H'⟩ := append_flat (c2 := c2) (ty := o.type) ht hinfo hzs hsz hfl H hu hsrc hbytes hlen
  exact WO.v d ho hk (r_append hop hs hx hr) (h A' c' w' H')
theorem WO.sappend1 (d : Nat) {t e : TypeId} {z : Value} {bytes c c2 : Nat} {s x : Operand} {A : Option Addr} {ad : Addr} {xs : List α} {x1 : α} {vs : List Value} (ho : ops[i]? = some o) (hk : okOp n ops τ o d true = true)
    (hop : o.op = .call { callee := .builtin .append, args := #[s, x], argTypes := #[t, t] }) (ht : P.underlying t = some (.slice e)) (hinfo : (P.info? e).map (fun i => (i.zero, i.size, i.bytes)) = some (some z, dk.sz, bytes)) (hzs : z.cells.size = dk.sz) (hsz : 0 < dk.sz)
    (hs : ev τ s = .slice A xs.length c) (hx : ev τ x = .slice (some ad) 1 c2) (H : St w0 S0 (El ow x1 vs :: F) w) (hu : U F (Rw ow e (.slice A xs.length c) xs) K) (hsrc : ∀ j u, vs[j]? = some u → w.cell? (ad.add j) = some u) (hbytes : (xs.length + 1) * bytes ≤ 140737488355328) (hlen : xs.length + 1 ≤ 9223372036854775807)
    (h : ∀ A' c' w', St w0 S0 (K (Rw ow e (.slice A' (xs ++ [x1]).length c') (xs ++ [x1]))) w' → WO P f n R ops k rest (upd τ d (.slice A' (xs ++ [x1]).length c')) w') : WO P f n R ops k (i :: rest) τ w := by
  obtain ⟨A', c', w', hr, H'⟩ := append_own1 (c2 := c2) (ty := o.type) ht hinfo hzs hsz H hu hsrc hbytes hlen
  exact WO.v d ho hk (r_append hop hs hx hr) (h A' c' w' H')
end
end Go.Proofs.Ytojpimpfpjhflaa.Fw
