/- The wheel: WheelNext, both. -/
import Derived.Test.YtojpimpfpjhflaaLawOK
import Derived.Test.YtojpimpfpjhflaaLit
namespace Go.Proofs.Ytojpimpfpjhflaa.Wh
open Go.RowKit Go.Proofs.Ytojpimpfpjhflaa.Fw Go.Proofs.YtojpimpfpjhflaaW.PrintWords Go.Proofs.Ytojpimpfpjhflaa.PFnExactWheelOK
set_option linter.unusedVariables false
set_option linter.unusedSimpArgs false

theorem lit55 (w : World) : (Instr.buildSlice 55 0 #[]).run Try.prog w = .ok (.slice (some ⟨w.heap.size, 0, none⟩) ([] : List S57).length ([] : List S57).length) (w.alloc (.cells ([] : List (List Value)).flatten.toArray 57)) := by kernel_rfl
set_option maxHeartbeats 1000000 in
/-- spec.l11Timers: all timers, slot by slot. -/
theorem timers_tri (now order : Int) (A : Option Addr) (c : Nat) (lv : List (List (List S57))) (w : World) (hr : Kd.C (Kd.slice 55 (Kd.slice 57 k57)) w A lv.length lv) (hbig : lv.flatten.flatten.length ≤ 1048576) :
    Tri Try.prog 40 #[.agg #[.int .i64 now, .int .i64 order, .slice A lv.length c]] w [] fun e LQ => ∃ A' c', e = .returned (.slice A' lv.flatten.flatten.length c') ∧ LQ = [RT A' c' lv.flatten.flatten] := by
  have hlen0 : lv.length ≤ 9223372036854775807 := hr.2.1
  refine tri_of_run0 (fn := Try.f40) (n := 35) Try.func40 rfl Try.ntmps40 (Nat.le_of_ble_eq_true rfl) fun H => ?_
  refine Run.seq (Run.regionL [0, 1] rfl ?_)
  refine WO.sbox 1 (cs := [.int .i64 now, .int .i64 order, .slice A lv.length c]) rfl rfl rfl rfl H ?_
  intro g1 w1 H1
  refine WO.v 2 rfl rfl (r_assignL rfl rfl) ?_
  refine WO.done (Run.seq (Run.regionL [0, 1] rfl ?_))
  refine WO.slit 6 (ow := o57) [] [] rfl rfl rfl rfl lit55 rfl own_nil_ (by decide) H1 ?_
  intro g w2 H2
  refine WO.v 3 rfl rfl (r_assignL rfl rfl) ?_
  refine WO.done (Run.seq (Run.seq (Run.regionL [0] rfl ?_)))
  refine WO.v 4 rfl rfl (r_assignI rfl rfl) ?_
  refine WO.done (Run.block ?_)
  refine Run.loopInv (fun m τ wr => ∃ (j : Nat) (A' : Option Addr) (c' : Nat) (ts : List S57), j + m = lv.length ∧ τ 1 = .pointer (some ⟨g1, 0, none⟩) ∧ τ 3 = .slice A' ts.length c' ∧ τ 4 = .int .i64 j ∧
      St w Em [RT A' c' ts, Bk g1 [.int .i64 now, .int .i64 order, .slice A lv.length c] 29] wr ∧ ts = (lv.take j).flatten.flatten) lv.length ⟨0, _, _, [], by omega, rfl, rfl, rfl, H2, rfl⟩ ?_
  clear H H1 H2
  rintro m τ wr ih ⟨j, A', c', ts, hm, h1, h3, h4, H, hts⟩
  refine Run.seq (Run.seq (Run.regionL [0, 1, 2, 3, 4] rfl ?_))
  refine WO.v 7 rfl rfl (r_moveI rfl h4) ?_
  refine WO.v 8 rfl rfl (r_fieldAddr rfl h1 Try.underlying29 rfl Try.sizeOf27 (q := 2) rfl) ?_
  refine WO.v 9 rfl rfl (r_load rfl rfl Try.isAgg27 (H.cell p1 rfl)) ?_
  refine WO.v 10 rfl rfl (r_len (e := 54) rfl rfl Try.underlying27) ?_
  refine WO.v 11 rfl rfl (r_lss rfl rfl rfl rfl) ?_
  refine WO.done (Run.test rfl (fun hq => ?_) (fun hq => ?_))
  · have hj : j < lv.length := by omega
    obtain ⟨b1, o1, A1, c1, rfl, hb1, hc1, hcc1, hr1⟩ := slice_at hr j hj
    have hlen1 : (lv.getD j []).length ≤ 9223372036854775807 := hr1.2.1
    refine Run.skip (Run.seq (Run.block (Run.seq (Run.regionL [0] rfl ?_))))
    refine WO.v 5 rfl rfl (r_assignI rfl rfl) ?_
    refine WO.done (Run.block ?_)
    refine Run.loopInv (fun m τ wr => ∃ (s : Nat) (A' : Option Addr) (c' : Nat) (ts : List S57), s + m = (lv.getD j []).length ∧ τ 1 = .pointer (some ⟨g1, 0, none⟩) ∧ τ 3 = .slice A' ts.length c' ∧ τ 4 = .int .i64 j ∧ τ 5 = .int .i64 s ∧
        St w Em [RT A' c' ts, Bk g1 [.int .i64 now, .int .i64 order, .slice (some ⟨b1, o1, none⟩) lv.length c] 29] wr ∧ ts = (lv.take j).flatten.flatten ++ ((lv.getD j []).take s).flatten) (lv.getD j []).length ⟨0, A', c', ts, by omega, h1, h3, h4, rfl, H, by simp [hts]⟩ ?_
    clear H h1 h3 h4 hts ts A' c'
    rintro m2 τ wr ih2 ⟨s, A', c', ts, hm2, h1, h3, h4, h5, H, hts⟩
    refine Run.seq (Run.seq (Run.regionL [0, 1, 2, 3, 4, 5, 6, 7] rfl ?_))
    refine WO.v 14 rfl rfl (r_moveI rfl h5) ?_
    refine WO.v 15 rfl rfl (r_fieldAddr rfl h1 Try.underlying29 rfl Try.sizeOf27 (q := 2) rfl) ?_
    refine WO.v 16 rfl rfl (r_load rfl rfl Try.isAgg27 (H.cell p1 rfl)) ?_
    refine WO.v 17 rfl rfl (r_moveI rfl h4) ?_
    refine WO.v 18 rfl rfl (r_indexAddr rfl rfl rfl Try.underlying27 Try.sizeOf54 (by omega) (by omega) (q := o1 + j) (by rw [Int.toNat_natCast, Nat.mul_one])) ?_
    refine WO.v 19 rfl rfl (r_load rfl rfl Try.isAgg54 ((H.below.cell (p := ⟨b1, o1 + j, none⟩) hb1).trans hc1)) ?_
    refine WO.v 20 rfl rfl (r_len (e := 55) rfl rfl Try.underlying54) ?_
    refine WO.v 21 rfl rfl (r_lss rfl rfl rfl rfl) ?_
    refine WO.done (Run.test rfl (fun hq2 => ?_) (fun hq2 => ?_))
    · have hs : s < (lv.getD j []).length := by omega
      obtain ⟨b2, o2, A2, c2, rfl, hb2, hc2, hcc2, hr2⟩ := slice_at hr1 s hs
      have hpre := pref_le lv j s hj hs
      rw [← hts] at hpre
      refine Run.skip (Run.seq (Run.block (Run.regionL [0, 1, 2, 3, 4, 5, 6, 7, 8, 9, 10] rfl ?_)))
      refine WO.v 24 rfl rfl (r_moveL rfl h3) ?_
      refine WO.v 25 rfl rfl (r_fieldAddr rfl h1 Try.underlying29 rfl Try.sizeOf27 (q := 2) rfl) ?_
      refine WO.v 26 rfl rfl (r_load rfl rfl Try.isAgg27 (H.cell p1 rfl)) ?_
      refine WO.v 27 rfl rfl (r_moveI rfl h4) ?_
      refine WO.v 28 rfl rfl (r_indexAddr rfl rfl rfl Try.underlying27 Try.sizeOf54 (by omega) (by omega) (q := o1 + j) (by rw [Int.toNat_natCast, Nat.mul_one])) ?_
      refine WO.v 29 rfl rfl (r_load rfl rfl Try.isAgg54 ((H.below.cell (p := ⟨b1, o1 + j, none⟩) hb1).trans hc1)) ?_
      refine WO.v 30 rfl rfl (r_moveI rfl h5) ?_
      refine WO.v 31 rfl rfl (r_indexAddr rfl rfl rfl Try.underlying54 Try.sizeOf55 (by omega) (by omega) (q := o2 + s) (by rw [Int.toNat_natCast, Nat.mul_one])) ?_
      refine WO.v 32 rfl rfl (r_load rfl rfl Try.isAgg55 ((H.below.cell (p := ⟨b2, o2 + s, none⟩) hb2).trans hc2)) ?_
      refine WO.sappend 33 rfl rfl rfl Try.underlying55 info57 rfl (Nat.succ_pos 2) rfl rfl flat57 H p0 (Kd.C_below hr2 H.below) (by omega) (by omega) ?_
      intro A3 c3 w3 H3
      refine WO.v 3 rfl rfl (r_assignL rfl rfl) ?_
      refine WO.done (Run.blockEnd (Run.regionL [0, 1, 2] rfl ?_))
      refine WO.v 22 rfl rfl (r_moveI rfl h5) ?_
      refine WO.v 23 rfl rfl (r_add rfl rfl rfl (c := (s : Int) + 1) (wrap_in (by omega) (by omega))) ?_
      refine WO.v 5 rfl rfl (r_assignI rfl rfl) ?_
      exact WO.done (ih2 (m2 - 1) _ _ (by omega) ⟨s + 1, A3, c3, ts ++ (lv.getD j []).getD s [], by omega, h1, rfl, h4, rfl, H3, by rw [hts, take_flat _ s hs, List.append_assoc]⟩)
    · refine Run.exit rfl (Run.blockEnd (Run.regionL [0, 1, 2] rfl ?_))
      refine WO.v 12 rfl rfl (r_moveI rfl h4) ?_
      refine WO.v 13 rfl rfl (r_add rfl rfl rfl (c := (j : Int) + 1) (wrap_in (by omega) (by omega))) ?_
      refine WO.v 4 rfl rfl (r_assignI rfl rfl) ?_
      exact WO.done (ih (m - 1) _ _ (by omega) ⟨j + 1, A', c', ts, by omega, h1, h3, rfl, H, by rw [hts, take_flat lv j hj, List.flatten_append, List.take_of_length_le (show (lv.getD j []).length ≤ s by omega)]⟩)
  · have hts' : ts = lv.flatten.flatten := by rw [hts, List.take_of_length_le (show lv.length ≤ j by omega)]
    subst hts'
    refine Run.exit rfl (Run.seq (Run.regionL [0, 1] rfl ?_))
    refine WO.v 34 rfl rfl (r_moveL rfl h3) ?_
    refine WO.v 2 rfl rfl (r_assignL rfl rfl) ?_
    exact WO.done (Run.ret1 Try.func40 Try.results40 rfl ⟨_, ⟨A', c', rfl, rfl⟩, H.sel (.c q0 .n)⟩)

/-! ### the first that is due -/
def IsMin (m : Int) (l : List S57) : Prop := (∃ x ∈ l, x.f1 = m) ∧ ∀ x ∈ l, m ≤ x.f1
theorem IsMin.uniq {m n : Int} {l : List S57} (h : IsMin m l) (h2 : IsMin n l) : m = n := by
  obtain ⟨⟨x, hx, rfl⟩, a⟩ := h
  obtain ⟨⟨y, hy, rfl⟩, b⟩ := h2
  have := a y hy
  have := b x hx
  omega
theorem IsMin.perm {m : Int} {l l' : List S57} (h : IsMin m l) (hp : l.Perm l') : IsMin m l' := by
  obtain ⟨⟨x, hx, e⟩, a⟩ := h
  exact ⟨⟨x, hp.mem_iff.1 hx, e⟩, fun y hy => a y (hp.mem_iff.2 hy)⟩
theorem IsMin.snoc {m : Int} {l : List S57} {x : S57} (h : IsMin m l) : IsMin (if x.f1 < m then x.f1 else m) (l ++ [x]) := by
  obtain ⟨⟨y, hy, e⟩, a⟩ := h
  by_cases c : x.f1 < m
  · rw [if_pos c]
    refine ⟨⟨x, by simp, rfl⟩, fun z hz => ?_⟩
    rcases List.mem_append.1 hz with hz | hz
    · have := a z hz; omega
    · simp at hz; subst hz; exact Int.le_refl _
  · rw [if_neg c]
    refine ⟨⟨y, List.mem_append_left _ hy, e⟩, fun z hz => ?_⟩
    rcases List.mem_append.1 hz with hz | hz
    · exact a z hz
    · simp at hz; subst hz; omega
theorem slotB_times (now order lvl slot : Int) : ∀ (p : Int) (l : List S57), slotB now order lvl slot p l = true → ∀ x ∈ l, now + 1 ≤ x.f1 ∧ x.f1 ≤ now + 500
  | p, [], _, x, hx => absurd hx List.not_mem_nil
  | p, y :: ys, h, x, hx => by
    unfold slotB at h
    split at h
    · rename_i hc
      rcases List.mem_cons.1 hx with rfl | hx
      · exact hc.1
      · exact slotB_times now order lvl slot y.f2 ys h x hx
    · cases h
theorem Good.times {now order : Int} {lv : List (List (List S57))} (hG : Good now order lv) : ∀ x ∈ lv.flatten.flatten, now + 1 ≤ x.f1 ∧ x.f1 ≤ now + 500 := by
  intro x hx
  obtain ⟨l, hl, hx⟩ := List.mem_flatten.1 hx
  obtain ⟨lvl, hlvl, hl⟩ := List.mem_flatten.1 hl
  obtain ⟨a, ha, rfl⟩ := List.getElem_of_mem hlvl
  obtain ⟨b, hb, rfl⟩ := List.getElem_of_mem hl
  have h := hG.level a (by have := hG.three; omega)
  have e1 : lv.getD a [] = lv[a] := by simp [List.getD_eq_getElem?_getD, List.getElem?_eq_getElem ha]
  rw [e1] at h
  have h' := h.2 b (by have := h.1; omega)
  have e2 : (lv[a]).getD b [] = (lv[a])[b] := by simp [List.getD_eq_getElem?_getD, List.getElem?_eq_getElem hb]
  rw [e2] at h'
  exact slotB_times now order _ _ 0 _ h' x hx
/-- What WheelNext answers. -/
def NextSaid (now order : Int) (lv : List (List (List S57))) (a b : Int) : Prop :=
  (¬ Good now order lv ∧ a = 0 ∧ b = 1) ∨ (Good now order lv ∧ lv.flatten.flatten = [] ∧ a = 0 ∧ b = 5) ∨ (Good now order lv ∧ lv.flatten.flatten ≠ [] ∧ b = 0 ∧ ∃ m, IsMin m lv.flatten.flatten ∧ a = m - now)
theorem NextSaid.uniq {now order : Int} {lv : List (List (List S57))} {a b a' b' : Int} (h : NextSaid now order lv a b) (h2 : NextSaid now order lv a' b') : a = a' ∧ b = b' := by
  rcases h with ⟨g, rfl, rfl⟩ | ⟨g, e, rfl, rfl⟩ | ⟨g, e, rfl, m, hm, rfl⟩ <;> rcases h2 with ⟨g', rfl, rfl⟩ | ⟨g', e', rfl, rfl⟩ | ⟨g', e', rfl, m', hm', rfl⟩ <;> first | exact ⟨rfl, rfl⟩ | exact absurd g' g | exact absurd g g' | exact absurd e e' | exact absurd e' e | exact ⟨by rw [hm.uniq hm'], rfl⟩
theorem getD_mem {l : List S57} {i : Nat} (h : i < l.length) : l.getD i z57 ∈ l := by
  rw [List.getD_eq_getElem?_getD, List.getElem?_eq_getElem h]
  exact List.getElem_mem _
theorem take_snoc (l : List S57) (i : Nat) (h : i < l.length) : l.take (i + 1) = l.take i ++ [l.getD i z57] := by
  rw [List.take_add_one, List.getElem?_eq_getElem h, List.getD_eq_getElem?_getD, List.getElem?_eq_getElem h]
  rfl

set_option maxHeartbeats 1000000 in
theorem specNext_calls (now order : Int) (A : Option Addr) (c : Nat) (lv : List (List (List S57))) (w : World) (hr : Kd.C (Kd.slice 55 (Kd.slice 57 k57)) w A lv.length lv) (hc : lv.length ≤ c) (hbig : lv.flatten.flatten.length ≤ 1048576) :
    Calls Try.prog 15 #[.agg #[.int .i64 now, .int .i64 order, .slice A lv.length c]] w fun e w' => (∃ a b, e = .returned (.tuple #[.int .i64 a, .int .i64 b]) ∧ NextSaid now order lv a b) ∧ Below w.heap.size w w' := by
  have H := St.nil w
  refine calls_of_run (fn := Try.f15) (n := 36) Try.func15 rfl Try.ntmps15 (Nat.le_of_ble_eq_true rfl) ?_
  refine Run.seq (Run.regionL [0, 1, 2] rfl ?_)
  refine WO.sbox 1 (cs := [.int .i64 now, .int .i64 order, .slice A lv.length c]) rfl rfl rfl rfl H ?_
  intro g1 w1 H1
  refine WO.v 2 rfl rfl (r_assignI rfl rfl) ?_
  refine WO.v 3 rfl rfl (r_assignI rfl rfl) ?_
  refine WO.done (Run.seq (Run.seq (Run.regionL [0, 1, 2] rfl ?_)))
  refine WO.v 7 rfl rfl (r_loadK (vs := [.int .i64 now, .int .i64 order, .slice A lv.length c]) rfl rfl Try.isAgg29 Try.sizeOf29 rfl (H1.cells p0)) ?_
  refine WO.call_ 8 rfl rfl Try.call11 (specOK_calls now order A c lv w1 (Kd.C_below hr H1.below) hc hbig) rfl rfl ?_
  rintro e w2 ⟨⟨b, rfl, hb1, hb0⟩, hb2⟩
  refine ⟨_, rfl, ?_⟩
  have H2 := H1.step hb2
  cases b with
  | false =>
    refine WO.v 9 rfl rfl (r_not rfl rfl rfl) ?_
    refine WO.done (Run.condT rfl (Run.seq (Run.regionL [0, 1] rfl ?_)))
    refine WO.v 2 rfl rfl (r_assignI rfl rfl) ?_
    refine WO.v 3 rfl rfl (r_assignI rfl rfl) ?_
    exact WO.done (Run.ret2 (v1 := .int .i64 0) (v2 := .int .i64 1) Try.func15 Try.results15 rfl rfl ⟨⟨0, 1, rfl, .inl ⟨hb0 rfl, rfl, rfl⟩⟩, H2.below⟩)
  | true =>
    have hG := hb1 rfl
    refine WO.v 9 rfl rfl (r_not rfl rfl rfl) ?_
    refine WO.done (Run.condF rfl (Run.skip (Run.seq (Run.regionL [0, 1, 2] rfl ?_))))
    refine WO.v 10 rfl rfl (r_loadK (vs := [.int .i64 now, .int .i64 order, .slice A lv.length c]) rfl rfl Try.isAgg29 Try.sizeOf29 rfl (H2.cells p0)) ?_
    refine WO.scall 11 rfl rfl Try.call40 H2 .n (timers_tri now order A c lv w2 (Kd.C_below hr H2.below) hbig) rfl rfl ?_
    rintro e LQ w3 ⟨A', c', rfl, rfl⟩ H3
    refine ⟨_, rfl, ?_⟩
    have htm := hG.times
    have hn0 := hG.n0
    have hn1 := hG.n1
    have hsaid : ∀ m, IsMin m lv.flatten.flatten → lv.flatten.flatten ≠ [] → NextSaid now order lv (m - now) 0 := fun m hm he => .inr (.inr ⟨hG, he, rfl, m, hm, rfl⟩)
    have hempty : lv.flatten.flatten = [] → NextSaid now order lv 0 5 := fun he => .inr (.inl ⟨hG, he, rfl, rfl⟩)
    generalize lv.flatten.flatten = ts at H3 hbig htm hsaid hempty
    refine WO.v 4 rfl rfl (r_assignL rfl rfl) ?_
    refine WO.done (Run.seq (Run.seq (Run.regionL [0, 1, 2] rfl ?_)))
    refine WO.v 12 rfl rfl (r_moveL rfl rfl) ?_
    refine WO.v 13 rfl rfl (r_len (e := 57) rfl rfl Try.underlying55) ?_
    refine WO.v 14 rfl rfl (r_eql rfl rfl rfl rfl) ?_
    refine WO.done (Run.test rfl (fun hq => ?_) (fun hq => ?_))
    · refine Run.seq (Run.regionL [0, 1] rfl ?_)
      refine WO.v 2 rfl rfl (r_assignI rfl rfl) ?_
      refine WO.v 3 rfl rfl (r_assignI rfl rfl) ?_
      exact WO.done (Run.ret2 (v1 := .int .i64 0) (v2 := .int .i64 5) Try.func15 Try.results15 rfl rfl ⟨⟨0, 5, rfl, hempty (List.eq_nil_of_length_eq_zero (by omega))⟩, H3.below⟩)
    · have hpos : 0 < ts.length := by omega
      obtain ⟨gg, rfl, hgg⟩ := H3.lies p0 hpos
      refine Run.skip (Run.seq (Run.regionL [0, 1, 2, 3, 4] rfl ?_))
      refine WO.v 15 rfl rfl (r_moveL rfl rfl) ?_
      refine WO.v 16 rfl rfl (r_indexAddr rfl rfl rfl Try.underlying55 Try.sizeOf57 (by decide) (by omega) (q := 0 + 0 * 3) rfl) ?_
      refine WO.v 17 rfl rfl (r_fieldAddr rfl rfl Try.underlying57 rfl Try.sizeOf3 (q := 0 + 0 * 3 + 1) rfl) ?_
      refine WO.v 18 rfl rfl (r_load (v := .int .i64 (ts.getD 0 z57).f1) rfl rfl Try.isAgg3 (row_cells (H3.rdC p0) 0 hpos 1 _ rfl)) ?_
      refine WO.v 5 rfl rfl (r_assignI rfl rfl) ?_
      refine WO.done (Run.seq (Run.seq (Run.regionL [0] rfl ?_)))
      refine WO.v 6 rfl rfl (r_assignI rfl rfl) ?_
      refine WO.done (Run.block ?_)
      refine Run.loopInv (fun m τ wr => ∃ (i : Nat) (mn : Int), i + m = ts.length ∧ 1 ≤ i ∧ IsMin mn (ts.take i) ∧ τ 1 = .pointer (some ⟨g1, 0, none⟩) ∧ τ 4 = .slice (some ⟨gg, 0, none⟩) ts.length c' ∧ τ 5 = .int .i64 mn ∧ τ 6 = .int .i64 i ∧
          St w Em [RT (some ⟨gg, 0, none⟩) c' ts, Bk g1 [.int .i64 now, .int .i64 order, .slice A lv.length c] 29] wr) (ts.length - 1) ⟨1, (ts.getD 0 z57).f1, by omega, by omega, ?_, rfl, rfl, rfl, rfl, H3⟩ ?_
      · rw [take_snoc ts 0 hpos]
        exact ⟨⟨_, by simp, rfl⟩, fun x hx => by simp at hx; subst hx; exact Int.le_refl _⟩
      clear H H1 H2 H3
      rintro m τ wr ih ⟨i, mn, hm, hi1, hmin, h1, h4, h5, h6, H⟩
      refine Run.seq (Run.seq (Run.regionL [0, 1, 2, 3] rfl ?_))
      refine WO.v 19 rfl rfl (r_moveI rfl h6) ?_
      refine WO.v 20 rfl rfl (r_moveL rfl h4) ?_
      refine WO.v 21 rfl rfl (r_len (e := 57) rfl rfl Try.underlying55) ?_
      refine WO.v 22 rfl rfl (r_lss rfl rfl rfl rfl) ?_
      refine WO.done (Run.test rfl (fun hq2 => ?_) (fun hq2 => ?_))
      · have hi : i < ts.length := by omega
        refine Run.skip (Run.seq (Run.block (Run.regionL [0, 1, 2, 3, 4, 5, 6, 7] rfl ?_)))
        refine WO.v 25 rfl rfl (r_moveI rfl h5) ?_
        refine WO.v 26 rfl rfl (r_moveL rfl h4) ?_
        refine WO.v 27 rfl rfl (r_moveI rfl h6) ?_
        refine WO.v 28 rfl rfl (r_indexAddr rfl rfl rfl Try.underlying55 Try.sizeOf57 (by omega) hq2 (q := 0 + i * 3) (by rw [Int.toNat_natCast])) ?_
        refine WO.v 29 rfl rfl (r_fieldAddr rfl rfl Try.underlying57 rfl Try.sizeOf3 (q := 0 + i * 3 + 1) rfl) ?_
        refine WO.v 30 rfl rfl (r_load (v := .int .i64 (ts.getD i z57).f1) rfl rfl Try.isAgg3 (row_cells (H.rdC p0) i hi 1 _ rfl)) ?_
        refine WO.v 31 rfl rfl (r_min rfl rfl rfl rfl) ?_
        refine WO.v 5 rfl rfl (r_assignI rfl rfl) ?_
        refine WO.done (Run.blockEnd (Run.regionL [0, 1, 2] rfl ?_))
        refine WO.v 23 rfl rfl (r_moveI rfl h6) ?_
        refine WO.v 24 rfl rfl (r_add rfl rfl rfl (c := (i : Int) + 1) (wrap_in (by omega) (by omega))) ?_
        refine WO.v 6 rfl rfl (r_assignI rfl rfl) ?_
        exact WO.done (ih (m - 1) _ _ (by omega) ⟨i + 1, _, by omega, by omega, by rw [take_snoc ts i hi]; exact hmin.snoc, h1, h4, rfl, rfl, H⟩)
      · rw [List.take_of_length_le (show ts.length ≤ i by omega)] at hmin
        obtain ⟨x, hx, hxe⟩ := hmin.1
        have := htm x hx
        refine Run.exit rfl (Run.seq (Run.regionL [0, 1, 2, 3, 4, 5] rfl ?_))
        refine WO.v 32 rfl rfl (r_moveI rfl h5) ?_
        refine WO.v 33 rfl rfl (r_fieldAddr rfl h1 Try.underlying29 rfl Try.sizeOf3 (q := 0) rfl) ?_
        refine WO.v 34 rfl rfl (r_load rfl rfl Try.isAgg3 (H.cell p1 rfl)) ?_
        refine WO.v 35 rfl rfl (r_sub rfl rfl rfl (wrap_in (by omega) (by omega))) ?_
        refine WO.v 2 rfl rfl (r_assignI rfl rfl) ?_
        refine WO.v 3 rfl rfl (r_assignI rfl rfl) ?_
        exact WO.done (Run.ret2 (v1 := .int .i64 (mn - now)) (v2 := .int .i64 0) Try.func15 Try.results15 rfl rfl ⟨⟨_, _, rfl, hsaid mn hmin (fun e => by rw [e] at hpos; simp at hpos)⟩, H.below⟩)

set_option maxHeartbeats 1000000 in
theorem implNext_calls (now order : Int) (A : Option Addr) (c : Nat) (lv : List (List (List S57))) (w : World) (hr : Kd.C (Kd.slice 55 (Kd.slice 57 k57)) w A lv.length lv) (hbig : lv.flatten.flatten.length ≤ 1048576) :
    Calls Try.prog 16 #[.agg #[.int .i64 now, .int .i64 order, .slice A lv.length c]] w fun e w' => (∃ a b, e = .returned (.tuple #[.int .i64 a, .int .i64 b]) ∧ NextSaid now order lv a b) ∧ Below w.heap.size w w' := by
  have H := St.nil w
  refine calls_of_run (fn := Try.f16) (n := 41) Try.func16 rfl Try.ntmps16 (Nat.le_of_ble_eq_true rfl) ?_
  refine Run.seq (Run.regionL [0, 1, 2] rfl ?_)
  refine WO.sbox 1 (cs := [.int .i64 now, .int .i64 order, .slice A lv.length c]) rfl rfl rfl rfl H ?_
  intro g1 w1 H1
  refine WO.v 2 rfl rfl (r_assignI rfl rfl) ?_
  refine WO.v 3 rfl rfl (r_assignI rfl rfl) ?_
  refine WO.done (Run.seq (Run.regionL [0, 1, 2, 3, 4, 5, 6, 7] rfl ?_))
  refine WO.v 10 rfl rfl (r_loadK (vs := [.int .i64 now, .int .i64 order, .slice A lv.length c]) rfl rfl Try.isAgg29 Try.sizeOf29 rfl (H1.cells p0)) ?_
  refine WO.scall 11 rfl rfl Try.call38 H1 .n (unwind_tri sort_rw now order A c lv w1 (Kd.C_below hr H1.below) hbig) rfl rfl ?_
  rintro e LQ w2 ⟨A', c', ts, b, rfl, rfl, hb1, hb0⟩ H2
  refine ⟨_, rfl, ?_⟩
  refine WO.v 9 rfl rfl (r_moveT rfl rfl) ?_
  refine WO.v 12 rfl rfl (r_extract rfl rfl rfl) ?_
  refine WO.v 13 rfl rfl (r_extract rfl rfl rfl) ?_
  refine WO.salloc 4 (cs := [.int .i64 0, .int .i64 0, .slice none 0 0]) rfl rfl rfl Try.zeroValue69 rfl H2 ?_
  intro g4 w3 H3
  refine WO.sstoreK (vs := [.int .i64 now, .int .i64 order, .slice A' ts.length c']) rfl rfl rfl rfl rfl rfl rfl Try.sizeOf69 rfl H3 p0 rfl ?_
  intro w4 H4
  refine WO.v 5 rfl rfl (r_assignB rfl rfl) ?_
  refine WO.done (Run.seq (Run.seq (Run.regionL [0, 1] rfl ?_)))
  refine WO.v 14 rfl rfl (r_moveB rfl rfl) ?_
  refine WO.v 15 rfl rfl (r_not rfl rfl rfl) ?_
  cases b with
  | false =>
    refine WO.done (Run.condT rfl (Run.seq (Run.regionL [0, 1] rfl ?_)))
    refine WO.v 2 rfl rfl (r_assignI rfl rfl) ?_
    refine WO.v 3 rfl rfl (r_assignI rfl rfl) ?_
    exact WO.done (Run.ret2 (v1 := .int .i64 0) (v2 := .int .i64 1) Try.func16 Try.results16 rfl rfl ⟨⟨0, 1, rfl, .inl ⟨hb0 rfl, rfl, rfl⟩⟩, H4.below⟩)
  | true =>
    obtain ⟨hG, hp, _⟩ := hb1 rfl
    have htm : ∀ x ∈ ts, now + 1 ≤ x.f1 ∧ x.f1 ≤ now + 500 := fun x hx => hG.times x (hp.mem_iff.1 hx)
    have hn0 := hG.n0
    have hn1 := hG.n1
    have hlen : ts.length ≤ 1048576 := by rw [hp.length_eq]; exact hbig
    have hsaid : ∀ m, IsMin m ts → ts ≠ [] → NextSaid now order lv (m - now) 0 := fun m hm he => .inr (.inr ⟨hG, fun e => he (by rw [e] at hp; exact hp.eq_nil), rfl, m, hm.perm hp, rfl⟩)
    refine WO.done (Run.condF rfl (Run.skip (Run.seq (Run.seq (Run.regionL [0, 1, 2, 3] rfl ?_)))))
    refine WO.v 16 rfl rfl (r_fieldAddr rfl rfl Try.underlying69 rfl Try.sizeOf55 (q := 2) rfl) ?_
    refine WO.v 17 rfl rfl (r_load rfl rfl Try.isAgg55 (H4.cell p0 rfl)) ?_
    refine WO.v 18 rfl rfl (r_len (e := 57) rfl rfl Try.underlying55) ?_
    refine WO.v 19 rfl rfl (r_eql rfl rfl rfl rfl) ?_
    refine WO.done (Run.test rfl (fun hq => ?_) (fun hq => ?_))
    · have hnil : ts = [] := List.eq_nil_of_length_eq_zero (by omega)
      refine Run.seq (Run.regionL [0, 1] rfl ?_)
      refine WO.v 2 rfl rfl (r_assignI rfl rfl) ?_
      refine WO.v 3 rfl rfl (r_assignI rfl rfl) ?_
      exact WO.done (Run.ret2 (v1 := .int .i64 0) (v2 := .int .i64 5) Try.func16 Try.results16 rfl rfl ⟨⟨0, 5, rfl, .inr (.inl ⟨hG, by rw [hnil] at hp; exact hp.symm.eq_nil, rfl, rfl⟩)⟩, H4.below⟩)
    · have hpos : 0 < ts.length := by omega
      obtain ⟨gg, rfl, hgg⟩ := H4.lies p1 hpos
      refine Run.skip (Run.seq (Run.regionL [0, 1, 2, 3, 4, 5] rfl ?_))
      refine WO.v 20 rfl rfl (r_fieldAddr rfl rfl Try.underlying69 rfl Try.sizeOf55 (q := 2) rfl) ?_
      refine WO.v 21 rfl rfl (r_load rfl rfl Try.isAgg55 (H4.cell p0 rfl)) ?_
      refine WO.v 22 rfl rfl (r_indexAddr rfl rfl rfl Try.underlying55 Try.sizeOf57 (by decide) (by omega) (q := 0 + 0 * 3) rfl) ?_
      refine WO.v 23 rfl rfl (r_fieldAddr rfl rfl Try.underlying57 rfl Try.sizeOf3 (q := 0 + 0 * 3 + 1) rfl) ?_
      refine WO.v 24 rfl rfl (r_load (v := .int .i64 (ts.getD 0 z57).f1) rfl rfl Try.isAgg3 (row_cells (H4.rdC p1) 0 hpos 1 _ rfl)) ?_
      refine WO.v 6 rfl rfl (r_assignI rfl rfl) ?_
      refine WO.done (Run.seq (Run.seq (Run.regionL [0, 1, 2, 3] rfl ?_)))
      refine WO.v 25 rfl rfl (r_fieldAddr rfl rfl Try.underlying69 rfl Try.sizeOf55 (q := 2) rfl) ?_
      refine WO.v 26 rfl rfl (r_load rfl rfl Try.isAgg55 (H4.cell p0 rfl)) ?_
      refine WO.v 27 rfl rfl (r_len (e := 57) rfl rfl Try.underlying55) ?_
      refine WO.v 28 rfl rfl (r_moveI rfl rfl) ?_
      refine WO.done (Run.block ?_)
      refine Run.loopInv (fun m τ wr => ∃ (i : Nat) (mn : Int), i + m = ts.length ∧ (i = 0 → mn = (ts.getD 0 z57).f1) ∧ (0 < i → IsMin mn (ts.take i)) ∧ τ 4 = .pointer (some ⟨g4, 0, none⟩) ∧ τ 6 = .int .i64 mn ∧ τ 26 = .slice (some ⟨gg, 0, none⟩) ts.length c' ∧ τ 27 = .int .i64 ts.length ∧ τ 28 = .int .i64 i ∧
          St w Em [Bk g4 [.int .i64 now, .int .i64 order, .slice (some ⟨gg, 0, none⟩) ts.length c'] 69, RT (some ⟨gg, 0, none⟩) c' ts] wr) ts.length ⟨0, (ts.getD 0 z57).f1, by omega, fun _ => rfl, fun h => absurd h (Nat.lt_irrefl _), rfl, rfl, rfl, rfl, rfl, H4.sel (.c q0 (.c q0 .n))⟩ ?_
      clear H H1 H2 H3 H4
      rintro m τ wr ih ⟨i, mn, hm, hm0, hmin, h4, h6, h26, h27, h28, H⟩
      refine Run.seq (Run.regionL [0] rfl ?_)
      refine WO.v 29 rfl rfl (r_lss rfl h28 h27 rfl) ?_
      refine WO.done (Run.seq (Run.test rfl (fun hq2 => ?_) (fun hq2 => ?_)))
      · have hi : i < ts.length := by omega
        refine Run.skip (Run.seq (Run.block (Run.seq (Run.regionL [0, 1, 2, 3] rfl ?_))))
        refine WO.v 30 rfl rfl (r_indexAddr rfl h26 h28 Try.underlying55 Try.sizeOf57 (by omega) hq2 (q := 0 + i * 3) (by rw [Int.toNat_natCast])) ?_
        refine WO.v 31 rfl rfl (r_loadK (vs := [.int .i64 (ts.getD i z57).f0, .int .i64 (ts.getD i z57).f1, .int .i64 (ts.getD i z57).f2]) rfl rfl Try.isAgg57 Try.sizeOf57 rfl (row_cells (H.rdC p1) i hi)) ?_
        refine WO.salloc 8 (cs := [.int .i64 0, .int .i64 0, .int .i64 0]) rfl rfl rfl Try.zeroValue57 rfl H ?_
        intro g8 w8 H8
        refine WO.sstoreK (vs := [.int .i64 (ts.getD i z57).f0, .int .i64 (ts.getD i z57).f1, .int .i64 (ts.getD i z57).f2]) rfl rfl rfl rfl rfl rfl rfl Try.sizeOf57 rfl H8 p0 rfl ?_
        intro w9 H9
        refine WO.done (Run.regionL [0, 1, 2, 3, 4] rfl ?_)
        refine WO.v 32 rfl rfl (r_moveI rfl h6) ?_
        refine WO.v 33 rfl rfl (r_fieldAddr rfl rfl Try.underlying57 rfl Try.sizeOf3 (q := 1) rfl) ?_
        refine WO.v 34 rfl rfl (r_load rfl rfl Try.isAgg3 (H9.cell p0 rfl)) ?_
        refine WO.v 35 rfl rfl (r_min rfl rfl rfl rfl) ?_
        refine WO.v 6 rfl rfl (r_assignI rfl rfl) ?_
        refine WO.done (Run.blockEnd (Run.regionL [0, 1] rfl ?_))
        refine WO.v 36 rfl rfl (r_add rfl h28 rfl (c := (i : Int) + 1) (wrap_in (by omega) (by omega))) ?_
        refine WO.v 28 rfl rfl (r_moveI rfl rfl) ?_
        refine WO.done (ih (m - 1) _ _ (by omega) ⟨i + 1, _, by omega, by omega, fun _ => ?_, h4, rfl, h26, h27, rfl, H9.sel (.c q1 (.c q1 .n))⟩)
        rw [take_snoc ts i hi]
        by_cases h0 : 0 < i
        · exact (hmin h0).snoc
        · obtain rfl : i = 0 := by omega
          rw [hm0 rfl, if_neg (Int.lt_irrefl _)]
          exact ⟨⟨_, by simp, rfl⟩, fun x hx => by simp at hx; subst hx; exact Int.le_refl _⟩
      · have hmin' := hmin (by omega)
        rw [List.take_of_length_le (show ts.length ≤ i by omega)] at hmin'
        obtain ⟨x, hx, hxe⟩ := hmin'.1
        have := htm x hx
        refine Run.exit rfl (Run.seq (Run.regionL [0, 1, 2, 3, 4, 5] rfl ?_))
        refine WO.v 37 rfl rfl (r_moveI rfl h6) ?_
        refine WO.v 38 rfl rfl (r_fieldAddr rfl h4 Try.underlying69 rfl Try.sizeOf3 (q := 0) rfl) ?_
        refine WO.v 39 rfl rfl (r_load rfl rfl Try.isAgg3 (H.cell p0 rfl)) ?_
        refine WO.v 40 rfl rfl (r_sub rfl rfl rfl (wrap_in (by omega) (by omega))) ?_
        refine WO.v 2 rfl rfl (r_assignI rfl rfl) ?_
        refine WO.v 3 rfl rfl (r_assignI rfl rfl) ?_
        exact WO.done (Run.ret2 (v1 := .int .i64 (mn - now)) (v2 := .int .i64 0) Try.func16 Try.results16 rfl rfl ⟨⟨_, _, rfl, hsaid mn hmin' (fun e => by rw [e] at hpos; simp at hpos)⟩, H.below⟩)
end Go.Proofs.Ytojpimpfpjhflaa.Wh
