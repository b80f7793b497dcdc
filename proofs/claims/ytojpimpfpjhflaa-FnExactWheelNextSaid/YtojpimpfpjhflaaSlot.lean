/- The wheel's small functions: inRange, place, slotOK. -/
import Derived.Test.YtojpimpfpjhflaaFind
import Derived.Test.YtojpimpfpjhflaaFwMem
namespace Go.Proofs.Ytojpimpfpjhflaa.Wh
open Go.RowKit Go.Proofs.Ytojpimpfpjhflaa.Fw Go.Proofs.YtojpimpfpjhflaaW.PrintWords Go.Proofs.Ytojpimpfpjhflaa.PFnExactWheelOK
set_option linter.unusedVariables false
set_option linter.unusedSimpArgs false

theorem inRange_calls (a b c : Int) (w : World) : Calls Try.prog 45 #[.int .i64 a, .int .i64 b, .int .i64 c] w fun e w' => e = .returned (.bool (decide (b ≤ a ∧ a ≤ c))) ∧ w' = w := by
  refine calls_of_run (fn := Try.f45) (n := 15) Try.func45 rfl Try.ntmps45 (Nat.le_of_ble_eq_true rfl) ?_
  refine Run.seq (Run.regionL [0] rfl ?_)
  refine WO.v 6 rfl rfl (r_assignB rfl rfl) ?_
  refine WO.done (Run.seq (Run.regionL [0, 1, 2, 3, 4, 5, 6, 7, 8] rfl ?_))
  refine WO.v 7 rfl rfl (r_moveI rfl rfl) ?_
  refine WO.v 8 rfl rfl (r_moveI rfl rfl) ?_
  by_cases h : b ≤ a
  · refine WO.v 9 rfl rfl (r_geq rfl rfl rfl (decide_eq_true h)) ?_
    refine WO.v 10 rfl rfl (r_moveB rfl rfl) ?_
    refine WO.v 11 rfl rfl (r_moveI rfl rfl) ?_
    refine WO.v 12 rfl rfl (r_moveI rfl rfl) ?_
    refine WO.v 13 rfl rfl (r_leq rfl rfl rfl rfl) ?_
    refine WO.v 14 rfl rfl (r_pickB rfl rfl rfl) ?_
    refine WO.v 6 rfl rfl (r_assignB rfl rfl) ?_
    exact WO.done (Run.ret1 Try.func45 Try.results45 rfl ⟨by simp only [h, true_and]; rfl, rfl⟩)
  · refine WO.v 9 rfl rfl (r_geq rfl rfl rfl (decide_eq_false h)) ?_
    refine WO.v 10 rfl rfl (r_moveB rfl rfl) ?_
    refine WO.x 11 rfl rfl ?_
    refine WO.x 12 rfl rfl ?_
    refine WO.x 13 rfl rfl ?_
    refine WO.v 14 rfl rfl (r_pickB rfl rfl rfl) ?_
    refine WO.v 6 rfl rfl (r_assignB rfl rfl) ?_
    exact WO.done (Run.ret1 Try.func45 Try.results45 rfl ⟨by simp only [h, false_and]; rfl, rfl⟩)

/-- The level and the slot of a moment. -/
def placeP (at_ now : Int) : Int × Int :=
  if at_ / 8 = now / 8 then (0, at_ % 8) else if at_ / 64 = now / 64 then (1, at_ / 8 % 8) else (2, at_ / 64 % 8)
theorem quo_in {a b : Int} (h0 : 0 ≤ a) (h1 : a ≤ 9223372036854775807) (hb : 0 < b) : IntKind.i64.wrap (a.tdiv b) = a / b := by
  rw [Int.tdiv_eq_ediv_of_nonneg h0]
  have h2 : 0 ≤ a / b := Int.ediv_nonneg h0 (by omega)
  have h3 : a / b ≤ a := Int.ediv_le_self b h0
  exact wrap_in (by omega) (by omega)
theorem rem_in {a b : Int} (h0 : 0 ≤ a) : a.tmod b = a % b := Int.tmod_eq_emod_of_nonneg h0

theorem place_calls (a b : Int) (ha : 0 ≤ a) (ha2 : a ≤ 9223372036854775807) (hb : 0 ≤ b) (hb2 : b ≤ 9223372036854775807) (w : World) :
    Calls Try.prog 65 #[.int .i64 a, .int .i64 b] w fun e w' => e = .returned (.tuple #[.int .i64 (placeP a b).1, .int .i64 (placeP a b).2]) ∧ w' = w := by
  have e8 : (0 : Int) ≤ a / 8 := Int.ediv_nonneg ha (by omega)
  have e64 : (0 : Int) ≤ a / 64 := Int.ediv_nonneg ha (by omega)
  refine calls_of_run (fn := Try.f65) (n := 26) Try.func65 rfl Try.ntmps65 (Nat.le_of_ble_eq_true rfl) ?_
  refine Run.seq (Run.regionL [0, 1] rfl ?_)
  refine WO.v 4 rfl rfl (r_assignI rfl rfl) ?_
  refine WO.v 5 rfl rfl (r_assignI rfl rfl) ?_
  refine WO.done (Run.seq (Run.block (Run.seq (Run.regionL [0, 1, 2, 3, 4, 5] rfl ?_))))
  refine WO.v 7 rfl rfl (r_moveI rfl rfl) ?_
  refine WO.v 8 rfl rfl (r_quo rfl rfl rfl (by decide) (quo_in ha ha2 (by decide))) ?_
  refine WO.v 9 rfl rfl (r_moveI rfl rfl) ?_
  refine WO.v 10 rfl rfl (r_quo rfl rfl rfl (by decide) (quo_in hb hb2 (by decide))) ?_
  refine WO.v 11 rfl rfl (r_eql rfl rfl rfl rfl) ?_
  refine WO.v 6 rfl rfl (r_assignB rfl rfl) ?_
  refine WO.done (Run.test rfl (fun hq => ?_) (fun hq => ?_))
  · refine Run.seq (Run.regionL [0, 1, 2, 3] rfl ?_)
    refine WO.v 12 rfl rfl (r_moveI rfl rfl) ?_
    refine WO.v 13 rfl rfl (r_rem rfl rfl rfl (by decide) (rem_in ha)) ?_
    refine WO.v 4 rfl rfl (r_assignI rfl rfl) ?_
    refine WO.v 5 rfl rfl (r_assignI rfl rfl) ?_
    exact WO.done (Run.ret2 Try.func65 Try.results65 rfl rfl ⟨by simp only [placeP, if_pos hq]; rfl, rfl⟩)
  · refine Run.seq (Run.regionL [0, 1, 2, 3, 4, 5] rfl ?_)
    refine WO.v 15 rfl rfl (r_moveI rfl rfl) ?_
    refine WO.v 16 rfl rfl (r_quo rfl rfl rfl (by decide) (quo_in ha ha2 (by decide))) ?_
    refine WO.v 17 rfl rfl (r_moveI rfl rfl) ?_
    refine WO.v 18 rfl rfl (r_quo rfl rfl rfl (by decide) (quo_in hb hb2 (by decide))) ?_
    refine WO.v 19 rfl rfl (r_eql rfl rfl rfl rfl) ?_
    refine WO.v 14 rfl rfl (r_assignB rfl rfl) ?_
    refine WO.done (Run.test rfl (fun hr => ?_) (fun hr => ?_))
    · refine Run.seq (Run.regionL [0, 1, 2, 3, 4] rfl ?_)
      refine WO.v 20 rfl rfl (r_moveI rfl rfl) ?_
      refine WO.v 21 rfl rfl (r_quo rfl rfl rfl (by decide) (quo_in ha ha2 (by decide))) ?_
      refine WO.v 22 rfl rfl (r_rem rfl rfl rfl (by decide) (rem_in e8)) ?_
      refine WO.v 4 rfl rfl (r_assignI rfl rfl) ?_
      refine WO.v 5 rfl rfl (r_assignI rfl rfl) ?_
      exact WO.done (Run.ret2 Try.func65 Try.results65 rfl rfl ⟨by simp only [placeP, if_neg hq, if_pos hr]; rfl, rfl⟩)
    · refine Run.skip (Run.blockEnd (Run.seq (Run.regionL [0, 1, 2, 3, 4] rfl ?_)))
      refine WO.v 23 rfl rfl (r_moveI rfl rfl) ?_
      refine WO.v 24 rfl rfl (r_quo rfl rfl rfl (by decide) (quo_in ha ha2 (by decide))) ?_
      refine WO.v 25 rfl rfl (r_rem rfl rfl rfl (by decide) (rem_in e64)) ?_
      refine WO.v 4 rfl rfl (r_assignI rfl rfl) ?_
      refine WO.v 5 rfl rfl (r_assignI rfl rfl) ?_
      exact WO.done (Run.ret2 Try.func65 Try.results65 rfl rfl ⟨by simp only [placeP, if_neg hq, if_neg hr]; rfl, rfl⟩)

/-- An element of a row of rows. -/
theorem slice_at {α : Type} {d : Kd α} {e : Nat} {w : World} {A : Option Addr} {n : Nat} {l : List (List α)} (h : (Kd.slice e d).C w A n l) (i : Nat) (hi : i < n) :
    ∃ b off Ai ci, A = some ⟨b, off, none⟩ ∧ b < w.heap.size ∧ w.cell? ⟨b, off + i, none⟩ = some (.slice Ai (l.getD i []).length ci) ∧ (l.getD i []).length ≤ ci ∧ d.C w Ai (l.getD i []).length (l.getD i []) := by
  obtain ⟨ad, c, e', _, hK, hc⟩ := Kd.C_get h ([] : List α) (i : Int) (by omega) (by omega)
  rw [Int.toNat_natCast] at hK hc
  obtain ⟨Ai, ci, rfl, l0, g0⟩ := hK
  have hq : w.cell? (ad.add (i * 1 + 0)) = some (.slice Ai (l.getD i []).length ci) := hc 0 _ rfl
  rw [Nat.mul_one, Nat.add_zero] at hq
  obtain ⟨b, off, sp⟩ := ad
  have hsp : sp = none := by
    obtain ⟨ad2, c2, e2, _, hK2, hc2⟩ := Kd.C_get h ([] : List α) 0 (by omega) (by omega)
    rw [e'] at e2
    cases e2
    obtain ⟨Ai2, ci2, rfl, _, _⟩ := hK2
    have h2 : w.cell? ((⟨b, off, sp⟩ : Addr).add 0) = _ := hc2 0 _ rfl
    cases sp with
    | none => rfl
    | some q =>
      simp [Addr.add, World.cell?] at h2
      split at h2 <;> simp at h2
  subst hsp
  have ha : (⟨b, off, none⟩ : Addr).add i = ⟨b, off + i, none⟩ := by unfold Addr.add; split <;> simp_all
  rw [ha] at hq
  exact ⟨b, off, Ai, ci, e', World.block_lt_of_cell? w _ hq, hq, l0, g0⟩

/-- A slot's timers are right. -/
def slotB (now order lvl slot : Int) : Int → List S57 → Bool
  | _, [] => true
  | p, x :: xs => if (now + 1 ≤ x.f1 ∧ x.f1 ≤ now + 500) ∧ (p + 1 ≤ x.f2 ∧ x.f2 ≤ order) ∧ (placeP x.f1 now).1 = lvl ∧ (placeP x.f1 now).2 = slot then slotB now order lvl slot x.f2 xs else false
theorem drop_cons {α : Type} (l : List α) (k : Nat) (z : α) (h : k < l.length) : l.drop k = l.getD k z :: l.drop (k + 1) := by
  rw [List.drop_eq_getElem_cons h]
  simp [List.getD_eq_getElem?_getD, List.getElem?_eq_getElem h]

set_option maxHeartbeats 1000000 in
theorem slotOK_calls (now order : Int) (A : Option Addr) (c : Nat) (l : List (List (List S57))) (lvl slot : Nat) (w : World) (hr : Kd.C (Kd.slice 55 (Kd.slice 57 k57)) w A l.length l)
    (hn0 : 0 ≤ now) (hn1 : now ≤ 1000000) (ho1 : order ≤ 1000000) (hl : lvl < l.length) (hs : slot < (l.getD lvl []).length) :
    Calls Try.prog 57 #[.agg #[.int .i64 now, .int .i64 order, .slice A l.length c], .int .i64 lvl, .int .i64 slot] w fun e w' => e = .returned (.bool (slotB now order lvl slot 0 ((l.getD lvl []).getD slot []))) ∧ Below w.heap.size w w' := by
  obtain ⟨b1, o1, A1, c1, rfl, hb1, hc1, hcc1, hr1⟩ := slice_at hr lvl hl
  obtain ⟨b2, o2, A2, c2, rfl, hb2, hc2, hcc2, hr2⟩ := slice_at hr1 slot hs
  have hlen2 : (l.getD lvl []).length ≤ 9223372036854775807 := hr1.2.1
  generalize hlist : (l.getD lvl []).getD slot [] = list at hc2 hcc2 hr2
  have hlen : list.length ≤ 9223372036854775807 := hr2.2.1
  refine calls_of_run (fn := Try.f57) (n := 64) Try.func57 rfl Try.ntmps57 (Nat.le_of_ble_eq_true rfl) ?_
  refine Run.seq (Run.regionL [0, 1] rfl ?_)
  refine WO.box_ 3 (cs := [.int .i64 now, .int .i64 order, .slice (some ⟨b1, o1, none⟩) l.length c]) rfl rfl rfl rfl ?_
  intro g w1 hg hs1 hB hM
  have hbl : Below w.heap.size w w1 := hM.below (Nat.le_refl _) (fun _ h => h.elim)
  refine WO.v 6 rfl rfl (r_assignB rfl rfl) ?_
  refine WO.done (Run.seq (Run.regionL [0] rfl ?_))
  refine WO.v 7 rfl rfl (r_assignI rfl rfl) ?_
  refine WO.done (Run.seq (Run.seq (Run.regionL [0, 1, 2, 3, 4, 5, 6, 7, 8, 9] rfl ?_)))
  refine WO.v 12 rfl rfl (r_fieldAddr rfl rfl Try.underlying29 rfl Try.sizeOf27 rfl) ?_
  refine WO.v 13 rfl rfl (r_load rfl rfl Try.isAgg27 (hB.cell 2 _ rfl)) ?_
  refine WO.v 14 rfl rfl (r_moveI rfl rfl) ?_
  refine WO.v 15 rfl rfl (r_indexAddr rfl rfl rfl Try.underlying27 Try.sizeOf54 (by omega) (by omega) (q := o1 + lvl) (by rw [Int.toNat_natCast, Nat.mul_one])) ?_
  refine WO.v 16 rfl rfl (r_load rfl rfl Try.isAgg54 ((hbl.cell (p := ⟨b1, o1 + lvl, none⟩) hb1).trans hc1)) ?_
  refine WO.v 17 rfl rfl (r_moveI rfl rfl) ?_
  refine WO.v 18 rfl rfl (r_indexAddr rfl rfl rfl Try.underlying54 Try.sizeOf55 (by omega) (by omega) (q := o2 + slot) (by rw [Int.toNat_natCast, Nat.mul_one])) ?_
  refine WO.v 19 rfl rfl (r_load rfl rfl Try.isAgg55 ((hbl.cell (p := ⟨b2, o2 + slot, none⟩) hb2).trans hc2)) ?_
  refine WO.v 20 rfl rfl (r_len (e := 57) rfl rfl Try.underlying55) ?_
  refine WO.v 21 rfl rfl (r_moveI rfl rfl) ?_
  refine WO.done (Run.block ?_)
  refine Run.loopInv (fun m τ wr => ∃ (kk : Nat) (p : Int), kk + m = list.length ∧ τ 1 = .int .i64 lvl ∧ τ 2 = .int .i64 slot ∧ τ 3 = .pointer (some ⟨g, 0, none⟩) ∧ τ 7 = .int .i64 p ∧ τ 19 = .slice A2 list.length c2 ∧ τ 20 = .int .i64 list.length ∧ τ 21 = .int .i64 kk ∧
      0 ≤ p ∧ p ≤ 1000000 ∧ Below w.heap.size w wr ∧ Blk wr g [.int .i64 now, .int .i64 order, .slice (some ⟨b1, o1, none⟩) l.length c] 29 ∧ slotB now order lvl slot 0 list = slotB now order lvl slot p (list.drop kk)) list.length
    ⟨0, 0, by omega, rfl, rfl, rfl, rfl, rfl, rfl, rfl, by omega, by omega, hbl, hB, by simp⟩ ?_
  rintro m τ wr ih ⟨kk, p, hm, h1, h2, h3, h7, h19, h20, h21, hp0, hp1, hbw, hBw, hB0⟩
  refine Run.seq (Run.regionL [0] rfl ?_)
  refine WO.v 22 rfl rfl (r_lss rfl h21 h20 rfl) ?_
  refine WO.done (Run.seq (Run.test rfl (fun hq => ?_) (fun hq => ?_)))
  · have hk : kk < list.length := by omega
    obtain ⟨b3, o3, rfl, hb3⟩ := row_plain hr2 (by omega)
    have hcells := row_cells hr2 kk hk
    rw [drop_cons list kk z57 hk] at hB0
    generalize hx : list.getD kk z57 = x at hcells hB0
    simp only [slotB] at hB0
    refine Run.skip (Run.seq (Run.block (Run.seq (Run.regionL [0, 1, 2, 3] rfl ?_))))
    refine WO.v 23 rfl rfl (r_indexAddr rfl h19 h21 Try.underlying55 Try.sizeOf57 (by omega) hq (q := o3 + kk * 3) (by rw [Int.toNat_natCast])) ?_
    refine WO.v 24 rfl rfl (r_loadK (vs := [.int .i64 x.f0, .int .i64 x.f1, .int .i64 x.f2]) rfl rfl Try.isAgg57 Try.sizeOf57 rfl (fun j u hj => (hbw.cell (p := (⟨b3, o3 + kk * 3, none⟩ : Addr).add j) (by unfold Addr.add; split <;> exact hb3)).trans (hcells j u hj))) ?_
    refine WO.alloc_ 9 rfl rfl rfl Try.zeroValue57 rfl ?_
    intro g2 w2 hg2 hs2 hB2 hM2
    refine WO.storeK_ (vs := [.int .i64 x.f0, .int .i64 x.f1, .int .i64 x.f2]) rfl rfl rfl rfl rfl rfl (by simp [Value.oneCell']) Try.sizeOf57 rfl hB2 rfl ?_
    intro w3 hs3 hB3 hM3
    have hgl := hBw.lt
    have hBw3 := (hBw.mut hM2 (fun h => h)).mut hM3 (by omega)
    have hbw3 : Below w.heap.size w w3 := (hbw.trans (hM2.below hbw.size (fun _ h => h.elim))).trans (hM3.below (by have := hbw.size; have := hM2.size; omega) (fun k hk => by have := hbw.size; omega))
    refine WO.done (Run.seq (Run.seq (Run.regionL [0, 1, 2, 3, 4, 5, 6, 7, 8, 9, 10, 11, 12, 13, 14, 15, 16, 17, 18, 19] rfl ?_)))
    refine WO.v 25 rfl rfl (r_fieldAddr rfl rfl Try.underlying57 rfl Try.sizeOf3 rfl) ?_
    refine WO.v 26 rfl rfl (r_load rfl rfl Try.isAgg3 (hB3.cell 1 _ rfl)) ?_
    refine WO.v 27 rfl rfl (r_fieldAddr rfl h3 Try.underlying29 rfl Try.sizeOf3 rfl) ?_
    refine WO.v 28 rfl rfl (r_load rfl rfl Try.isAgg3 (hBw3.cell 0 _ rfl)) ?_
    refine WO.v 29 rfl rfl (r_add rfl rfl rfl (wrap_in (by omega) (by omega))) ?_
    refine WO.v 30 rfl rfl (r_fieldAddr rfl h3 Try.underlying29 rfl Try.sizeOf3 rfl) ?_
    refine WO.v 31 rfl rfl (r_load rfl rfl Try.isAgg3 (hBw3.cell 0 _ rfl)) ?_
    refine WO.v 32 rfl rfl (r_add rfl rfl rfl (wrap_in (by omega) (by omega))) ?_
    refine WO.call_ 33 rfl rfl Try.call45 (inRange_calls x.f1 (now + 1) (now + 500) w3) rfl rfl ?_
    rintro e w4 ⟨rfl, rfl⟩
    refine ⟨_, rfl, ?_⟩
    by_cases ha : now + 1 ≤ x.f1 ∧ x.f1 ≤ now + 500
    · rw [decide_eq_true ha]
      refine WO.v 34 rfl rfl (r_not rfl rfl rfl) ?_
      refine WO.v 35 rfl rfl (r_moveB rfl rfl) ?_
      refine WO.v 36 rfl rfl (r_fieldAddr rfl rfl Try.underlying57 rfl Try.sizeOf3 rfl) ?_
      refine WO.v 37 rfl rfl (r_load rfl rfl Try.isAgg3 (hB3.cell 2 _ rfl)) ?_
      refine WO.v 38 rfl rfl (r_moveI rfl h7) ?_
      refine WO.v 39 rfl rfl (r_add rfl rfl rfl (wrap_in (by omega) (by omega))) ?_
      refine WO.v 40 rfl rfl (r_fieldAddr rfl h3 Try.underlying29 rfl Try.sizeOf3 rfl) ?_
      refine WO.v 41 rfl rfl (r_load rfl rfl Try.isAgg3 (hBw3.cell 1 _ rfl)) ?_
      refine WO.call_ 42 rfl rfl Try.call45 (inRange_calls x.f2 (p + 1) order w4) rfl rfl ?_
      rintro e w5 ⟨rfl, rfl⟩
      refine ⟨_, rfl, ?_⟩
      by_cases hb : p + 1 ≤ x.f2 ∧ x.f2 ≤ order
      · rw [decide_eq_true hb]
        refine WO.v 43 rfl rfl (r_not rfl rfl rfl) ?_
        refine WO.v 44 rfl rfl (r_pickB rfl rfl rfl) ?_
        refine WO.done (Run.condF rfl (Run.skip (Run.seq (Run.regionL [0, 1, 2, 3, 4, 5, 6, 7, 8, 9] rfl ?_))))
        refine WO.v 46 rfl rfl (r_fieldAddr rfl rfl Try.underlying57 rfl Try.sizeOf3 rfl) ?_
        refine WO.v 47 rfl rfl (r_load rfl rfl Try.isAgg3 (hB3.cell 1 _ rfl)) ?_
        refine WO.v 48 rfl rfl (r_fieldAddr rfl h3 Try.underlying29 rfl Try.sizeOf3 rfl) ?_
        refine WO.v 49 rfl rfl (r_load rfl rfl Try.isAgg3 (hBw3.cell 0 _ rfl)) ?_
        refine WO.call_ 50 rfl rfl Try.call65 (place_calls x.f1 now (by omega) (by omega) (by omega) (by omega) w5) rfl rfl ?_
        rintro e w6 ⟨rfl, rfl⟩
        refine ⟨_, rfl, ?_⟩
        refine WO.v 45 rfl rfl (r_moveT rfl rfl) ?_
        refine WO.v 51 rfl rfl (r_extract rfl rfl rfl) ?_
        refine WO.v 52 rfl rfl (r_extract rfl rfl rfl) ?_
        refine WO.v 10 rfl rfl (r_assignI rfl rfl) ?_
        refine WO.v 11 rfl rfl (r_assignI rfl rfl) ?_
        refine WO.done (Run.seq (Run.seq (Run.regionL [0, 1, 2, 3, 4, 5, 6, 7] rfl ?_)))
        refine WO.v 53 rfl rfl (r_moveI rfl rfl) ?_
        refine WO.v 54 rfl rfl (r_moveI rfl h1) ?_
        by_cases hc : (placeP x.f1 now).1 = lvl
        · refine WO.v 55 rfl rfl (r_neq rfl rfl rfl (decide_eq_false (fun h => h hc))) ?_
          refine WO.v 56 rfl rfl (r_moveB rfl rfl) ?_
          refine WO.v 57 rfl rfl (r_moveI rfl rfl) ?_
          refine WO.v 58 rfl rfl (r_moveI rfl h2) ?_
          by_cases hd : (placeP x.f1 now).2 = slot
          · refine WO.v 59 rfl rfl (r_neq rfl rfl rfl (decide_eq_false (fun h => h hd))) ?_
            refine WO.v 60 rfl rfl (r_pickB rfl rfl rfl) ?_
            refine WO.done (Run.condF rfl (Run.skip (Run.regionL [0, 1, 2] rfl ?_)))
            refine WO.v 61 rfl rfl (r_fieldAddr rfl rfl Try.underlying57 rfl Try.sizeOf3 rfl) ?_
            refine WO.v 62 rfl rfl (r_load rfl rfl Try.isAgg3 (hB3.cell 2 _ rfl)) ?_
            refine WO.v 7 rfl rfl (r_assignI rfl rfl) ?_
            refine WO.done (Run.blockEnd (Run.regionL [0, 1] rfl ?_))
            refine WO.v 63 rfl rfl (r_add rfl h21 rfl (c := (kk : Int) + 1) (wrap_in (by omega) (by omega))) ?_
            refine WO.v 21 rfl rfl (r_moveI rfl rfl) ?_
            refine WO.done (ih (m - 1) _ _ (by omega) ⟨kk + 1, x.f2, by omega, h1, h2, h3, rfl, h19, h20, rfl, by omega, by omega, hbw3, hBw3, ?_⟩)
            rw [hB0, if_pos ⟨ha, hb, hc, hd⟩]
          · refine WO.v 59 rfl rfl (r_neq rfl rfl rfl (decide_eq_true hd)) ?_
            refine WO.v 60 rfl rfl (r_pickB rfl rfl rfl) ?_
            refine WO.done (Run.condT rfl (Run.seq (Run.regionL [0] rfl ?_)))
            refine WO.v 6 rfl rfl (r_assignB rfl rfl) ?_
            refine WO.done (Run.ret1 (v1 := .bool false) Try.func57 Try.results57 rfl ⟨?_, hbw3⟩)
            rw [hB0, if_neg (fun h => hd h.2.2.2)]
        · refine WO.v 55 rfl rfl (r_neq rfl rfl rfl (decide_eq_true hc)) ?_
          refine WO.v 56 rfl rfl (r_moveB rfl rfl) ?_
          refine WO.x 57 rfl rfl ?_
          refine WO.x 58 rfl rfl ?_
          refine WO.x 59 rfl rfl ?_
          refine WO.v 60 rfl rfl (r_pickB rfl rfl rfl) ?_
          refine WO.done (Run.condT rfl (Run.seq (Run.regionL [0] rfl ?_)))
          refine WO.v 6 rfl rfl (r_assignB rfl rfl) ?_
          refine WO.done (Run.ret1 (v1 := .bool false) Try.func57 Try.results57 rfl ⟨?_, hbw3⟩)
          rw [hB0, if_neg (fun h => hc h.2.2.1)]
      · rw [decide_eq_false hb]
        refine WO.v 43 rfl rfl (r_not rfl rfl rfl) ?_
        refine WO.v 44 rfl rfl (r_pickB rfl rfl rfl) ?_
        refine WO.done (Run.condT rfl (Run.seq (Run.regionL [0] rfl ?_)))
        refine WO.v 6 rfl rfl (r_assignB rfl rfl) ?_
        refine WO.done (Run.ret1 (v1 := .bool false) Try.func57 Try.results57 rfl ⟨?_, hbw3⟩)
        rw [hB0, if_neg (fun h => hb h.2.1)]
    · rw [decide_eq_false ha]
      refine WO.v 34 rfl rfl (r_not rfl rfl rfl) ?_
      refine WO.v 35 rfl rfl (r_moveB rfl rfl) ?_
      refine WO.x 36 rfl rfl ?_
      refine WO.x 37 rfl rfl ?_
      refine WO.x 38 rfl rfl ?_
      refine WO.x 39 rfl rfl ?_
      refine WO.x 40 rfl rfl ?_
      refine WO.x 41 rfl rfl ?_
      refine WO.x 42 rfl rfl ?_
      refine WO.x 43 rfl rfl ?_
      refine WO.v 44 rfl rfl (r_pickB rfl rfl rfl) ?_
      refine WO.done (Run.condT rfl (Run.seq (Run.regionL [0] rfl ?_)))
      refine WO.v 6 rfl rfl (r_assignB rfl rfl) ?_
      refine WO.done (Run.ret1 (v1 := .bool false) Try.func57 Try.results57 rfl ⟨?_, hbw3⟩)
      rw [hB0, if_neg (fun h => ha h.1)]
  · refine Run.exit rfl (Run.seq (Run.regionL [0] rfl ?_))
    refine WO.v 6 rfl rfl (r_assignB rfl rfl) ?_
    refine WO.done (Run.ret1 (v1 := .bool true) Try.func57 Try.results57 rfl ⟨?_, hbw⟩)
    rw [hB0, List.drop_eq_nil_of_le (by omega)]
    rfl
end Go.Proofs.Ytojpimpfpjhflaa.Wh
