/- More of the walk's rules over rows that are owned: make, literals, stores into elements. -/
import Derived.Test.YtojpimpfpjhflaaSlOps
import Derived.Laws.MakeOwn
import Derived.Laws.OwnMore
namespace Go.Proofs.Ytojpimpfpjhflaa.Fw
open Go Go.RowKit Go.Proofs.YtojpimpfpjhflaaW.PrintWords
set_option linter.unusedVariables false
set_option linter.unusedSimpArgs false

theorem add_gg {g a b : Nat} : (⟨g, a, none⟩ : Addr).add b = ⟨g, a + b, none⟩ := by unfold Addr.add; split <;> simp_all
section
variable {P : Program} {w0 w w' : World} {S0 : Fp} {L F : List Asn} {K : Asn → List Asn} {α β : Type} {dk : Kd α} {ow : Ow dk} {e g i n c : Nat} {xs : List α}
theorem bigs_em {w2 : World} : ∀ {xs : List α} {vss : List (List Value)}, vss.length = xs.length → (∀ (j : Nat) (x : α) (vs : List Value), xs[j]? = some x → vss[j]? = some vs → ow.own w2 Em x vs) → bigs ow w2 Em xs vss
  | [], [], _, _ => trivial
  | x :: xs, vs :: vss, hl, hk => ⟨Em, Em, hk 0 x vs rfl rfl, bigs_em (by simpa using hl) (fun j x vs hx hv => hk (j + 1) x vs hx hv), fun _ h => h.elim, fun _ h => h, fun _ h => h⟩
/-- A new row, its elements flat. -/
theorem St.row_new {vss : List (List Value)} (H : St w0 S0 L w) (hl : vss.length = xs.length) (hk : ∀ (j : Nat) (x : α) (vs : List Value), xs[j]? = some x → vss[j]? = some vs → ow.own w Em x vs) (hm : xs.length ≤ maxLen) :
    St w0 S0 (Rw ow e (.slice (some ⟨w.heap.size, 0, none⟩) xs.length xs.length) xs :: L) (w.alloc (.cells vss.flatten.toArray e)) := by
  have hk' : ∀ (j : Nat) (x : α) (vs : List Value), xs[j]? = some x → vss[j]? = some vs → ow.own (w.alloc (.cells vss.flatten.toArray e)) Em x vs := fun j x vs hx hv => ow.stab (hk j x vs hx hv) fun _ h => h.elim
  have hb := bigs_em hl hk'
  have hlen := bigs_len hb
  have hfl : vss.flatten.length = xs.length * dk.sz := by rw [flat_len hlen.2, hlen.1]
  refine H.new (B := Rw ow e (.slice (some ⟨w.heap.size, 0, none⟩) xs.length xs.length) xs) (Mut.of_alloc w _) (S' := fun k => k = w.heap.size) ⟨vss, fun k hk => by simpa [Value.ownBlock] using hk.symm, ?_, bigs_mono hb fun _ h => h.elim⟩ (fun k hk => by subst hk; exact ⟨by simp, Nat.le_refl _⟩)
  have := World.ownsRow_lit (base := 0) (e := e) (size := dk.sz) w vss.flatten.toArray xs.length (Nat.zero_le _) hm (by simpa using hfl)
  simpa using this
theorem made_flat (z : Array Value) (s : Nat) (hz : z.size = s) (hs : 0 < s) (n : Nat) : (List.replicate n z.toList).flatten = (madeCells z (n * s)).toList := by
  refine List.ext_getElem? fun j => ?_
  have hlen : ∀ vs ∈ List.replicate n z.toList, vs.length = s := fun vs hv => by rw [List.eq_of_mem_replicate hv, Array.length_toList, hz]
  have hfl : (List.replicate n z.toList).flatten.length = n * s := by rw [flat_len hlen, List.length_replicate]
  by_cases hj : j < n * s
  · have hd : j / s < n := by rw [Nat.div_lt_iff_lt_mul hs]; exact hj
    have hr : j % s < s := Nat.mod_lt _ hs
    have h1 := flat_at hlen (i := j / s) (vs := z.toList) (by simp [hd]) (j % s) hr
    rw [Nat.mul_comm, Nat.div_add_mod] at h1
    rw [h1]
    have hjm : j < (madeCells z (n * s)).size := by rw [size_madeCells]; exact hj
    rw [Array.getElem?_toList, Array.getElem?_toList, Array.getElem?_eq_getElem hjm, Array.getElem?_eq_getElem (show j % s < z.size by omega)]
    simp [madeCells, hz]
    rw [getElem!_pos z (j % s) (by omega)]
  · rw [List.getElem?_eq_none (by omega), List.getElem?_eq_none (by rw [Array.length_toList, size_madeCells]; omega)]
theorem make_row {t : TypeId} {z : Value} {bytes : Nat} {z0 : α} (ht : P.underlying t = some (.slice e)) (hinfo : (P.info? e).map (fun i => (i.zero, i.size, i.bytes)) = some (some z, dk.sz, bytes)) (hzs : z.cells.size = dk.sz) (hsz : 0 < dk.sz) (hb0 : 0 < bytes)
    (hz0 : ∀ w, ow.own w Em z0 z.cells.toList) (H : St w0 S0 L w) (n : Nat) (hl : n * bytes ≤ 281474976710656) :
    ∃ g w', (Instr.makeSlice t (.int .i64 n) (.int .i64 n)).run P w = .ok (.slice (some ⟨g, 0, none⟩) (List.replicate n z0).length n) w' ∧ St w0 S0 (Rw ow e (.slice (some ⟨g, 0, none⟩) (List.replicate n z0).length n) (List.replicate n z0) :: L) w' := by
  obtain ⟨i0, hi, hzz⟩ := Option.map_eq_some_iff.1 hinfo
  simp only [Prod.mk.injEq] at hzz
  obtain ⟨hz0', hz1, hz2⟩ := hzz
  have hm : n ≤ 281474976710656 := Nat.le_trans (Nat.le_mul_of_pos_right _ hb0) hl
  have hr := run_make (P := P) w t e i0 z ht hi hz0' .i64 .i64 (n : Int) (n : Int) (by omega) (by omega)
    (by
      have h3 : ((i0.bytes * n : Nat) : Int) ≤ 281474976710656 := by rw [hz2, Nat.mul_comm]; omega
      rwa [Int.natCast_mul] at h3) (by omega)
  simp only [Int.toNat_natCast] at hr
  rw [hz1] at hr
  have h1 := H.row_new (ow := ow) (e := e) (xs := List.replicate n z0) (vss := List.replicate n z.cells.toList) (by simp) (fun j x vs hx hv => by
    have e1 := List.eq_of_mem_replicate (List.mem_of_getElem? hx)
    have e2 := List.eq_of_mem_replicate (List.mem_of_getElem? hv)
    rw [e1, e2]
    exact hz0 w) (by simp only [List.length_replicate, maxLen]; omega)
  have hcell : (List.replicate n z.cells.toList).flatten.toArray = madeCells z.cells (n * dk.sz) := by rw [made_flat z.cells dk.sz hzs hsz n]
  rw [hcell] at h1
  have hlr : (List.replicate n z0).length = n := by simp
  refine ⟨w.heap.size, _, by rw [hr, hlr], ?_⟩
  rw [hlr] at h1 ⊢
  exact h1
/-! ### stores into elements -/
theorem own_stores {base e' s m c' : Nat} : ∀ (vs2 : List Value) (k : Nat) (us : List Value) (vss : List (List Value)) (w : World), w.ownsRow base e' s (.slice (some ⟨g, 0, none⟩) m c') m vss.flatten → vss[i]? = some us → (∀ vs ∈ vss, vs.length = s) → k + vs2.length = s → (∀ u ∈ vs2, u.oneCell' = true) →
    ∃ w', (storeCells ⟨g, i * s, none⟩ vs2 k).run P w = .ok () w' ∧ w'.heap.size = w.heap.size ∧ w'.ownsRow base e' s (.slice (some ⟨g, 0, none⟩) m c') m (vss.set i (us.take k ++ vs2)).flatten ∧ Mut (fun k => k = g) w w'
  | [], k, us, vss, w, ho, hi, hs, hk, h1 => by
    have hus := hs us (List.mem_of_getElem? hi)
    refine ⟨w, by simp [storeCells], rfl, ?_, Mut.refl w⟩
    rw [List.append_nil, List.take_of_length_le (by simp at hk; omega)]
    rw [show vss.set i us = vss by
      refine List.ext_getElem? fun m => ?_
      rw [List.getElem?_set]
      split
      · subst_vars
        rw [hi]
        simp [(List.getElem?_eq_some_iff.1 hi).1]
      · rfl]
    exact ho
  | v :: vs2, k, us, vss, w, ho, hi, hs, hk, h1 => by
    have hus := hs us (List.mem_of_getElem? hi)
    have hks : k < s := by simp at hk; omega
    have hil := (List.getElem?_eq_some_iff.1 hi).1
    have hfl : vss.flatten.length = vss.length * s := flat_len hs
    have hle : i * s + s ≤ vss.length * s := by rw [← Nat.succ_mul]; exact Nat.mul_le_mul_right _ hil
    obtain ⟨hA, hB⟩ := ho
    have hj : i * s + k < vss.flatten.length := by omega
    have ho : w.ownsRow base e' s (.slice (some ⟨g, 0, none⟩) m c') m vss.flatten := ⟨hA, hB⟩
    have hm : 0 < m := by
      rcases Nat.eq_zero_or_pos m with h | h
      · rw [h, Nat.zero_mul] at hA; omega
      · exact h
    obtain ⟨g', c2, he, _, _, hlt, hcell⟩ := own_at ho hm
    cases he
    have hc : w.cell? ((⟨g, i * s, none⟩ : Addr).add k) = some vss.flatten[i * s + k] := by rw [add_gg]; exact hcell _ _ (List.getElem?_eq_getElem hj)
    have hth : w.frozen? ((⟨g, i * s, none⟩ : Addr).add k) = false := by
      rw [add_gg]
      rcases hB with ⟨h, _⟩ | ⟨g', cap, cur, he, _, hh, _⟩
      · cases h
      · cases he
        simp [World.frozen?, hh]
    have ho2 := own_set (u := v) ho hj
    rw [flat_set hs hi k v hks] at ho2
    obtain ⟨w', hr, hsz, ho3, hmut⟩ := own_stores vs2 (k + 1) (us.set k v) (vss.set i (us.set k v)) _ ho2 (by simp [hil]) (fun vs hv => by
      rcases List.mem_or_eq_of_mem_set hv with h | h
      · exact hs vs h
      · rw [h, List.length_set, hus]) (by simp at hk; omega) (fun x hx => h1 x (List.mem_cons_of_mem _ hx))
    refine ⟨w', ?_, hsz.trans (by simp [World.setCell]), ?_, (Mut.of_set w ⟨g, i * s + k, none⟩ v).trans hmut⟩
    · simp only [storeCells, Sem.run_bind]
      rw [run_store_ (h1 v List.mem_cons_self) hc hth]
      simp only [Result.andThen_ok]
      rw [add_gg]
      exact hr
    · rw [List.set_set] at ho3
      have e1 : (us.set k v).take (k + 1) ++ vs2 = us.take k ++ v :: vs2 := by
        rw [List.take_add_one, List.getElem?_set_self (by omega), Option.toList_some, List.append_assoc, List.take_set_of_le (Nat.le_refl k)]
        rfl
      rw [e1] at ho3
      exact ho3
/-- An element is put into a row: x1 with what it owns. -/
theorem row_put {x1 : α} {vs : List Value} (H : St w0 S0 (El ow x1 vs :: F) w) (hu : U F (Rw ow e (.slice (some ⟨g, 0, none⟩) xs.length c) xs) K) (hi : i < xs.length) :
    ∃ w', (storeCells ⟨g, i * dk.sz, none⟩ vs 0).run P w = .ok () w' ∧ St w0 S0 (K (Rw ow e (.slice (some ⟨g, 0, none⟩) xs.length c) (xs.set i x1))) w' := by
  obtain ⟨S1, S2, hx, ⟨vss, h1, h2, h3⟩, hd, hl, hre⟩ := H.opn2 hu
  obtain ⟨hlen, hs⟩ := bigs_len h3
  obtain ⟨us, T1, T2, e1, e2, e3, e4, e5, e6⟩ := bigs_take h3 (List.getElem?_eq_getElem hi)
  obtain ⟨w', hr, hsz, ho, hm⟩ := own_stores (P := P) (i := i) vs 0 us vss w h2 e1 hs (by rw [ow.len hx]; omega) (ow.one hx)
  refine ⟨w', hr, hre (Rw ow e (.slice (some ⟨g, 0, none⟩) xs.length c) (xs.set i x1)) w' (fun k => S1 k ∨ S2 k) (hm.mono fun k _ hk => .inr (h1 k (by rw [hk]; rfl))) ⟨vss.set i vs, fun k hk => .inr (h1 k hk), by rw [List.length_set]; simpa using ho, ?_⟩ fun k hk => ⟨by rw [hsz]; exact hl k hk, .inl hk⟩⟩
  have hg2 : S2 g := h1 g rfl
  have hne : ∀ k, S1 k → k ≠ g := fun k hk e => hd k hk (e ▸ hg2)
  have hlk : ∀ k, k < w.heap.size → k ≠ g → w'.heap[k]? = w.heap[k]? := fun k hk e => hm.block k hk e
  refine bigs_back (S1 := S1) (S2 := T2) (bigsH_stab e3 fun k hk => ?_) (ow.stab hx fun k hk => hlk k (hl k (.inl hk)) (hne k hk)) (fun k a b => hd k a (e6 k b).1) (fun k hk => ⟨.inl hk, fun e => hne k hk ?_⟩) (fun k hk => ⟨.inr (e6 k hk).1, (e6 k hk).2⟩)
  · have := e6 k hk
    exact hlk k (hl k (.inr this.1)) (fun e => this.2 (by rw [e]; rfl))
  · simpa [Value.ownBlock] using e
end
section
variable {P : Program} {f : FuncId} {n : Nat} {R : Ending → World → Prop} {k : List Item} {τ : Tm} {w0 w : World} {S0 : Fp} {L F : List Asn} {K : Asn → List Asn} {ops : Array Oper} {i : Nat} {rest : List Nat} {o : Oper}
variable {α β : Type} {dk : Kd α} {ow : Ow dk}
theorem WO.smake (d : Nat) {t e : TypeId} {z : Value} {bytes : Nat} {x y : Operand} {m : Nat} (z0 : α) (ho : ops[i]? = some o) (hk : okOp n ops τ o d true = true) (hop : o.op = .makeSlice t x y) (hx : ev τ x = .int .i64 m) (hy : ev τ y = .int .i64 m)
    (ht : P.underlying t = some (.slice e)) (hinfo : (P.info? e).map (fun i => (i.zero, i.size, i.bytes)) = some (some z, dk.sz, bytes)) (hzs : z.cells.size = dk.sz) (hsz : 0 < dk.sz) (hb0 : 0 < bytes)
    (hz0 : ∀ w, ow.own w Em z0 z.cells.toList) (H : St w0 S0 L w) (hl : m * bytes ≤ 281474976710656)
    (h : ∀ g w', St w0 S0 (Rw ow e (.slice (some ⟨g, 0, none⟩) (List.replicate m z0).length m) (List.replicate m z0) :: L) w' → WO P f n R ops k rest (upd τ d (.slice (some ⟨g, 0, none⟩) (List.replicate m z0).length m)) w') : WO P f n R ops k (i :: rest) τ w := by
  obtain ⟨g, w', hr, H'⟩ := make_row (P := P) ht hinfo hzs hsz hb0 hz0 H m hl
  exact WO.v d ho hk (by simp [execOp, hop, hx, hy, hr]) (h g w' H')
theorem r_storeAt {t : TypeId} {x y : Operand} {a : Addr} {v : Value} {vs : List Value} {sz : Nat} {w' : World} {ρ : Operand → Value} (hop : o.op = .store t x y) (hx : ρ x = .pointer (some a)) (hy : ρ y = v) (hv : v.cells = vs.toArray) (hz : ∀ w, (sizeOf t).run P w = .ok sz w) (hsz : vs.length = sz)
    (hr : (storeCells a vs 0).run P w = .ok () w') : (execOp ρ o).run P w = .ok .skip w' := by
  simp only [execOp, hop, hx, hy, Instr.storeAt, Instr.sureAddr, storeVar, hv, Sem.run_bind, Sem.run_pure, Sem.run_pure', Result.andThen_ok, hz, List.size_toArray, hsz, ne_eq, not_true_eq_false, if_false, hr]
/-- A store of a whole element into a row; what it owns goes with it. -/
theorem WO.sput {t e : TypeId} {x y : Operand} {g q j c sz : Nat} {x1 : α} {xs : List α} {v : Value} {vs : List Value} (ho : ops[i]? = some o) (hk : okOp0 ops τ o = true) (hop : o.op = .store t x y) (hx : ev τ x = .pointer (some ⟨g, q, none⟩)) (hy : ev τ y = v) (hv : v.cells = vs.toArray)
    (hz : ∀ w, (sizeOf t).run P w = .ok sz w) (hsz : vs.length = sz) (H : St w0 S0 (El ow x1 vs :: F) w) (hu : U F (Rw ow e (.slice (some ⟨g, 0, none⟩) xs.length c) xs) K) (hj : j < xs.length) (hq : q = j * dk.sz)
    (h : ∀ w', St w0 S0 (K (Rw ow e (.slice (some ⟨g, 0, none⟩) xs.length c) (xs.set j x1))) w' → WO P f n R ops k rest τ w') : WO P f n R ops k (i :: rest) τ w := by
  subst hq
  obtain ⟨w', hr, H'⟩ := row_put (P := P) H hu hj
  exact WO.u ho hk (r_storeAt hop hx hy hv hz hsz hr) (h w' H')
/-- A store into one cell of an element. -/
theorem WO.scell {t e : TypeId} {x y : Operand} {g q j r c : Nat} {x0 x1 : α} {xs : List α} {v : Value} (ho : ops[i]? = some o) (hk : okOp0 ops τ o = true) (hop : o.op = .store t x y) (hx : ev τ x = .pointer (some ⟨g, q, none⟩)) (hy : ev τ y = v) (h1 : v.oneCell' = true)
    (hz : ∀ w, (sizeOf t).run P w = .ok 1 w) (H : St w0 S0 L w) (hu : U L (Rw ow e (.slice (some ⟨g, 0, none⟩) xs.length c) xs) K) (hi : xs[j]? = some x0) (hq : q = j * dk.sz + r) (hr : r < dk.sz)
    (hset : ∀ w S vs, ow.own w S x0 vs → ow.own w S x1 (vs.set r v))
    (h : ∀ w', St w0 S0 (K (Rw ow e (.slice (some ⟨g, 0, none⟩) xs.length c) (xs.set j x1))) w' → WO P f n R ops k rest τ w') : WO P f n R ops k (i :: rest) τ w := by
  subst hq
  obtain ⟨S, ⟨vss, h1', h2, h3⟩, hl, hre⟩ := H.opn hu
  obtain ⟨hlen, hs⟩ := bigs_len h3
  have hjl : j < xs.length := (List.getElem?_eq_some_iff.1 hi).1
  obtain ⟨us, T1, T2, e1, e2, e3, e4, e5, e6⟩ := bigs_take h3 hi
  have hfl := flat_len hs
  have hle : j * dk.sz + dk.sz ≤ xs.length * dk.sz := by rw [← Nat.succ_mul]; exact Nat.mul_le_mul_right _ hjl
  have hjj : j * dk.sz + r < vss.flatten.length := by rw [hfl, hlen]; omega
  obtain ⟨g', c2, he, _, _, hlt, hcell⟩ := own_at h2 (by omega)
  cases he
  have hth : w.frozen? ⟨g, j * dk.sz + r, none⟩ = false := by
    rcases h2.2 with ⟨h, _⟩ | ⟨g', cap, cur, he, _, hh, _⟩
    · cases h
    · cases he
      simp [World.frozen?, hh]
  have ho2 := own_set (u := v) h2 hjj
  rw [flat_set hs e1 r v hr] at ho2
  refine WO.u ho hk (r_store hop hx hy h1 hz (hcell _ _ (List.getElem?_eq_getElem hjj)) hth) (h _ (hre (Rw ow e (.slice (some ⟨g, 0, none⟩) xs.length c) (xs.set j x1)) _ S ((Mut.of_set w ⟨g, j * dk.sz + r, none⟩ v).mono fun k _ hk => h1' k (by rw [hk]; rfl)) ⟨vss.set j (us.set r v), h1', by rw [List.length_set]; exact ho2, ?_⟩ fun k hk => ⟨by simpa [World.setCell] using hl k hk, .inl hk⟩))
  have hfar : ∀ k, k ≠ g → (w.setCell ⟨g, j * dk.sz + r, none⟩ v).heap[k]? = w.heap[k]? := fun k hk => Below.heap_setCell _ _ _ _ hk
  have hng : ∀ k, (S k ∧ some k ≠ (Value.slice (some ⟨g, 0, none⟩) xs.length c).ownBlock) → k ≠ g := fun k hk e => hk.2 (by rw [e]; rfl)
  exact bigs_back (S1 := T1) (S2 := T2) (bigsH_stab e3 fun k hk => hfar k (hng k (e6 k hk))) (ow.stab (hset _ _ _ e2) fun k hk => hfar k (hng k (e5 k hk))) e4 e5 e6
/-- A row within an element's place: told as an element. -/
theorem St.elR {d1 : Kd β} {o1 : Ow d1} {e1 : Nat} {v1 : Value} {x : List β} (H : St w0 S0 L w) (hu : U L (Rw o1 e1 v1 x) K) : St w0 S0 (K (El (Ow.slice e1 o1) x [v1])) w := H.imp hu fun S hS _ => ⟨v1, rfl, hS⟩
theorem St.elF {x : α} {vs : List Value} (hf : Flat ow) (H : St w0 S0 L w) (hk : dk.K w x vs) : St w0 S0 (El ow x vs :: L) w := H.emp (B := El ow x vs) (hf hk)
end
end Go.Proofs.Ytojpimpfpjhflaa.Fw
