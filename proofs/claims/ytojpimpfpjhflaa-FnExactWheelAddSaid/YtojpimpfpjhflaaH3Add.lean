/- The wheel: add, in both programs; no condition. -/
import Derived.Test.YtojpimpfpjhflaaH2
namespace Go.Proofs.Ytojpimpfpjhflaa.Wh
open Go.RowKit Go.Proofs.Ytojpimpfpjhflaa.Fw Go.Proofs.YtojpimpfpjhflaaW.PrintWords Go.Proofs.Ytojpimpfpjhflaa.PFnExactWheelOK
set_option linter.unusedVariables false
set_option linter.unusedSimpArgs false
def addC (order id ah : Int) (ts : List S57) : Int := if 1 ≤ ah ∧ ah ≤ 500 then (if hasId id ts = true then 9 else if ts.length = 60 ∨ order = 1000000 then 7 else 0) else 4
def addO (order id ah : Int) (ts : List S57) : Int := if addC order id ah ts = 0 then order + 1 else order
def addT (now order id ah : Int) (ts : List S57) : List S57 := if addC order id ah ts = 0 then ts ++ [⟨id, now + ah, order + 1⟩] else ts
/-- A timer is put behind those of its slot. -/
def putE (now : Int) (x : S57) (lv : List (List (List S57))) : List (List (List S57)) :=
  lv.set (placeP x.f1 now).1.toNat ((lv.getD (placeP x.f1 now).1.toNat []).set (placeP x.f1 now).2.toNat (((lv.getD (placeP x.f1 now).1.toNat []).getD (placeP x.f1 now).2.toNat []) ++ [x]))
def addL (now order id ah : Int) (lv : List (List (List S57))) : List (List (List S57)) := if addC order id ah lv.flatten.flatten = 0 then putE now ⟨id, now + ah, order + 1⟩ lv else lv
theorem addC_cases (order id ah : Int) (ts : List S57) : (¬ (1 ≤ ah ∧ ah ≤ 500) ∧ addC order id ah ts = 4) ∨ ((1 ≤ ah ∧ ah ≤ 500) ∧ hasId id ts = true ∧ addC order id ah ts = 9) ∨ ((1 ≤ ah ∧ ah ≤ 500) ∧ hasId id ts = false ∧ (ts.length = 60 ∨ order = 1000000) ∧ addC order id ah ts = 7) ∨
    ((1 ≤ ah ∧ ah ≤ 500) ∧ hasId id ts = false ∧ ¬ (ts.length = 60 ∨ order = 1000000) ∧ addC order id ah ts = 0) := by
  unfold addC
  by_cases h1 : 1 ≤ ah ∧ ah ≤ 500
  · cases h2 : hasId id ts with
    | true => exact .inr (.inl ⟨h1, rfl, by rw [if_pos h1, if_pos rfl]⟩)
    | false =>
      by_cases h3 : ts.length = 60 ∨ order = 1000000
      · exact .inr (.inr (.inl ⟨h1, rfl, h3, by rw [if_pos h1, if_neg (by simp), if_pos h3]⟩))
      · exact .inr (.inr (.inr ⟨h1, rfl, h3, by rw [if_pos h1, if_neg (by simp), if_neg h3]⟩))
  · exact .inl ⟨h1, by rw [if_neg h1]⟩
theorem addC_perm {order id ah : Int} {a b : List S57} (h : a.Perm b) : addC order id ah a = addC order id ah b := by
  unfold addC
  rw [hasId_perm h, h.length_eq]
theorem addT_no {now order id ah : Int} {ts : List S57} (h : addC order id ah ts ≠ 0) : addT now order id ah ts = ts ∧ addO order id ah ts = order := ⟨if_neg h, if_neg h⟩
theorem addT_yes {now order id ah : Int} {ts : List S57} (h : addC order id ah ts = 0) : addT now order id ah ts = ts ++ [⟨id, now + ah, order + 1⟩] ∧ addO order id ah ts = order + 1 := ⟨if_pos h, if_pos h⟩
theorem putE_at {now : Int} {x : S57} {lv : List (List (List S57))} {l s : Nat} (h : placeP x.f1 now = ((l : Int), (s : Int))) : putE now x lv = lv.set l ((lv.getD l []).set s (((lv.getD l []).getD s []) ++ [x])) := by
  unfold putE
  rw [h]
  rfl
section
variable {now order : Int} {lv : List (List (List S57))}
theorem Good.deal_addT (hG : Good now order lv) {ts : List S57} (hp : ts.Perm lv.flatten.flatten) (hs : ts.Pairwise (fun a b => a.f2 ≤ b.f2)) (id ah : Int) : deal now (addT now order id ah ts) = addL now order id ah lv := by
  unfold addL
  rw [← addC_perm hp]
  by_cases h0 : addC order id ah ts = 0
  · rw [if_pos h0, (addT_yes h0).1]
    have hah : 1 ≤ ah := by
      rcases addC_cases order id ah ts with ⟨_, h⟩ | ⟨h, _⟩ | ⟨h, _⟩ | ⟨h, _⟩
      · rw [h] at h0; cases h0
      · exact h.1
      · exact h.1
      · exact h.1
    have hn0 := hG.n0
    obtain ⟨l, s, hl, hs8, hpl⟩ := place_lt (at_ := now + ah) (now := now) (by omega)
    rw [deal_snoc now ts ⟨id, now + ah, order + 1⟩ hl hs8 hpl, putE_at (x := ⟨id, now + ah, order + 1⟩) hpl, hG.deal_eq hp hs]
    congr 1
    have e : (List.range 8).map (fun s => slotF now ts l s) = lv.getD l [] := by
      have := deal_get now ts hl
      rw [hG.deal_eq hp hs] at this
      rw [List.getD_eq_getElem?_getD, this]
      rfl
    rw [e, hG.slot_eq hp hs hl hs8]
  · rw [if_neg h0, (addT_no h0).1, hG.deal_eq hp hs]
theorem set_flat {α : Type} (L : List (List α)) (i : Nat) (x : List α) : (L.set i x).flatten.length ≤ L.flatten.length + x.length := by
  induction L generalizing i with
  | nil => simp
  | cons a L ih =>
    cases i with
    | zero => simp only [List.set_cons_zero, List.flatten_cons, List.length_append]; omega
    | succ i => simp only [List.set_cons_succ, List.flatten_cons, List.length_append]; have := ih i; omega
theorem putE_len (hG : Good now order lv) (x : S57) : (putE now x lv).flatten.flatten.length ≤ 1000 := by
  have hf := hG.few
  unfold putE
  generalize (placeP x.f1 now).1.toNat = l
  generalize (placeP x.f1 now).2.toNat = s
  have h1 := (sub_slot (lv := lv) l s).length_le
  have h2 : (lv.getD l []).flatten.length ≤ lv.flatten.flatten.length := by
    have h3 : (lv.getD l []).Sublist lv.flatten := by
      rw [List.getD_eq_getElem?_getD]
      cases e : lv[l]? with
      | none => exact List.nil_sublist _
      | some a => exact List.sublist_flatten_of_mem (List.mem_of_getElem? e)
    exact (sub_flatten h3).length_le
  have h4 := set_flat (lv.getD l []) s ((lv.getD l []).getD s [] ++ [x])
  rw [List.length_append] at h4
  generalize (lv.getD l []).set s ((lv.getD l []).getD s [] ++ [x]) = lev at h4
  have h5 : (lv.set l lev).flatten.flatten = ((lv.map List.flatten).set l lev.flatten).flatten := by rw [flatten2, List.map_set]
  have h6 := set_flat (lv.map List.flatten) l lev.flatten
  rw [← flatten2] at h6
  rw [h5]
  simp only [List.length_cons, List.length_nil] at h4
  omega
end
/-- What WheelAdd says. -/
def AddSaid (now order : Int) (lv : List (List (List S57))) (id ah : Int) (a b : Int) (lv' : List (List (List S57))) (code : Int) : Prop :=
  (¬ Good now order lv ∧ a = 0 ∧ b = 0 ∧ lv' = [] ∧ code = 1) ∨ (Good now order lv ∧ a = now ∧ b = addO order id ah lv.flatten.flatten ∧ lv' = addL now order id ah lv ∧ code = addC order id ah lv.flatten.flatten)
def AddQ (now order : Int) (lv : List (List (List S57))) (id ah : Int) (e : Ending) (LQ : List Asn) : Prop :=
  ∃ (a b : Int) (lv' : List (List (List S57))) (code : Int) (A' : Option Addr) (c' : Nat), e = .returned (.tuple #[.agg #[.int .i64 a, .int .i64 b, .slice A' lv'.length c'], .int .i64 code]) ∧ LQ = [Rw o54 54 (.slice A' lv'.length c') lv'] ∧ AddSaid now order lv id ah a b lv' code
theorem AddSaid.uniq {now order : Int} {lv : List (List (List S57))} {id ah a b a' b' d d' : Int} {l l' : List (List (List S57))} (h : AddSaid now order lv id ah a b l d) (h' : AddSaid now order lv id ah a' b' l' d') : a = a' ∧ b = b' ∧ l = l' ∧ d = d' := by
  rcases h with ⟨g, h1, h2, h3, h4⟩ | ⟨g, h1, h2, h3, h4⟩ <;> rcases h' with ⟨g', h1', h2', h3', h4'⟩ | ⟨g', h1', h2', h3', h4'⟩
  · exact ⟨h1.trans h1'.symm, h2.trans h2'.symm, h3.trans h3'.symm, h4.trans h4'.symm⟩
  · exact absurd g' g
  · exact absurd g g'
  · exact ⟨h1.trans h1'.symm, h2.trans h2'.symm, h3.trans h3'.symm, h4.trans h4'.symm⟩
theorem AddSaid.few {now order : Int} {lv : List (List (List S57))} {id ah a b d : Int} {l : List (List (List S57))} (h : AddSaid now order lv id ah a b l d) : l.flatten.flatten.length ≤ 1000 := by
  rcases h with ⟨g, h1, h2, rfl, h4⟩ | ⟨g, h1, h2, rfl, h4⟩
  · simp
  · unfold addL
    split
    · exact putE_len g _
    · have := g.few; omega
end Go.Proofs.Ytojpimpfpjhflaa.Wh
namespace Go.Proofs.Ytojpimpfpjhflaa.Wh
open Go.RowKit Go.Proofs.Ytojpimpfpjhflaa.Fw Go.Proofs.YtojpimpfpjhflaaW.PrintWords Go.Proofs.Ytojpimpfpjhflaa.PFnExactWheelOK
set_option linter.unusedVariables false
set_option linter.unusedSimpArgs false
theorem build57 (a b d : Int) (w : World) : (Instr.build 57 #[(0, .int .i64 a), (1, .int .i64 b), (2, .int .i64 d)]).run Try.prog w = .ok (.agg #[.int .i64 a, .int .i64 b, .int .i64 d]) w := by kernel_rfl
set_option maxHeartbeats 1000000 in
set_option maxRecDepth 20000 in
theorem add_tri (gt : Nat) (now order : Int) (A : Option Addr) (c : Nat) (ts : List S57) (id ah : Int) (w : World) (hbig : ts.length ≤ 1048576) (hn0 : 0 ≤ now) (hn1 : now ≤ 1000000) (ho0 : 0 ≤ order) (ho1 : order ≤ 1000000) :
    Tri Try.prog 43 #[.pointer (some ⟨gt, 0, none⟩), .int .i64 id, .int .i64 ah] w [Bk gt [.int .i64 now, .int .i64 order, .slice A ts.length c] 69, RT A c ts] fun e LQ => ∃ A' c', e = .returned (.int .i64 (addC order id ah ts)) ∧ LQ = [Bk gt [.int .i64 now, .int .i64 (addO order id ah ts), .slice A' (addT now order id ah ts).length c'] 69, RT A' c' (addT now order id ah ts)] := by
  refine tri_of_run (fn := Try.f43) (n := 58) Try.func43 rfl Try.ntmps43 (Nat.le_of_ble_eq_true rfl) fun S H => ?_
  refine Run.seq (Run.regionL [0] rfl ?_)
  refine WO.v 6 rfl rfl (r_assignI rfl rfl) ?_
  refine WO.done (Run.seq (Run.block (Run.seq (Run.regionL [0, 1, 2, 3] rfl ?_))))
  refine WO.v 8 rfl rfl (r_moveI rfl rfl) ?_
  refine WO.call_ 9 rfl rfl Try.call45 (inRange_calls ah 1 500 w) rfl rfl ?_
  rintro e w2 ⟨rfl, rfl⟩
  refine ⟨_, rfl, ?_⟩
  by_cases h1 : 1 ≤ ah ∧ ah ≤ 500
  · rw [decide_eq_true h1]
    refine WO.v 10 rfl rfl (r_not rfl rfl rfl) ?_
    refine WO.v 7 rfl rfl (r_assignB rfl rfl) ?_
    refine WO.done (Run.condF rfl (Run.seq (Run.regionL [0, 1, 2, 3, 4] rfl ?_)))
    refine WO.v 12 rfl rfl (r_moveP rfl rfl) ?_
    refine WO.v 13 rfl rfl (r_moveI rfl rfl) ?_
    refine WO.call_ 14 rfl rfl Try.call60 (find_calls gt id A c ts w2 (H.cell p0 rfl) (H.rdC p1)) rfl rfl ?_
    rintro e w3 ⟨rfl, hb3⟩
    refine ⟨_, rfl, ?_⟩
    have H3 := H.step hb3
    rcases fidx_cases id ts with ⟨k, hk, hf, he, _⟩ | ⟨hf, hno⟩
    · have hh : hasId id ts = true := List.any_eq_true.2 ⟨_, getD_mem hk, decide_eq_true he⟩
      have hc : addC order id ah ts = 9 := by unfold addC; rw [if_pos h1, if_pos hh]
      obtain ⟨e1, e2⟩ := addT_no (now := now) (order := order) (id := id) (ah := ah) (ts := ts) (by rw [hc]; decide)
      rw [hc, e1, e2, hf]
      refine WO.v 15 rfl rfl (r_geq rfl rfl rfl (decide_eq_true (show (0 : Int) ≤ (k : Int) by omega))) ?_
      refine WO.v 11 rfl rfl (r_assignB rfl rfl) ?_
      refine WO.done (Run.condT rfl (Run.seq (Run.regionL [0] rfl ?_)))
      refine WO.v 6 rfl rfl (r_assignI rfl rfl) ?_
      exact WO.done (Run.ret1 (v1 := .int .i64 9) Try.func43 Try.results43 rfl ⟨_, ⟨A, c, rfl, rfl⟩, H3⟩)
    · have hh : hasId id ts = false := by cases h : hasId id ts with | false => rfl | true => obtain ⟨x, hx, e⟩ := List.any_eq_true.1 h; exact absurd (of_decide_eq_true e) (hno x hx)
      rw [hf]
      refine WO.v 15 rfl rfl (r_geq rfl rfl rfl (decide_eq_false (by omega))) ?_
      refine WO.v 11 rfl rfl (r_assignB rfl rfl) ?_
      refine WO.done (Run.condF rfl (Run.seq (Run.regionL [0, 1, 2, 3, 4, 5, 6, 7, 8, 9, 10, 11, 12, 13] rfl ?_)))
      refine WO.v 17 rfl rfl (r_moveP rfl rfl) ?_
      refine WO.v 18 rfl rfl (r_nilCheck rfl rfl) ?_
      refine WO.v 19 rfl rfl (r_fieldAddr rfl rfl Try.underlying69 rfl Try.sizeOf55 (q := 0 + 2) rfl) ?_
      refine WO.v 20 rfl rfl (r_load rfl rfl Try.isAgg55 (H3.cell p0 rfl)) ?_
      refine WO.v 21 rfl rfl (r_len (e := 57) rfl rfl Try.underlying55) ?_
      by_cases h60 : (ts.length : Int) = 60
      · refine WO.v 22 rfl rfl (r_eql rfl rfl rfl (decide_eq_true h60)) ?_
        refine WO.v 23 rfl rfl (r_moveB rfl rfl) ?_
        refine WO.x 24 rfl rfl ?_
        refine WO.x 25 rfl rfl ?_
        refine WO.x 26 rfl rfl ?_
        refine WO.x 27 rfl rfl ?_
        refine WO.x 28 rfl rfl ?_
        refine WO.v 29 rfl rfl (r_pickB rfl rfl rfl) ?_
        refine WO.v 16 rfl rfl (r_assignB rfl rfl) ?_
        have hc : addC order id ah ts = 7 := by unfold addC; rw [if_pos h1, if_neg (by rw [hh]; simp), if_pos (.inl (by omega))]
        obtain ⟨e1, e2⟩ := addT_no (now := now) (order := order) (id := id) (ah := ah) (ts := ts) (by rw [hc]; decide)
        rw [hc, e1, e2]
        refine WO.done (Run.condT rfl (Run.seq (Run.regionL [0] rfl ?_)))
        refine WO.v 6 rfl rfl (r_assignI rfl rfl) ?_
        exact WO.done (Run.ret1 (v1 := .int .i64 7) Try.func43 Try.results43 rfl ⟨_, ⟨A, c, rfl, rfl⟩, H3⟩)
      · refine WO.v 22 rfl rfl (r_eql rfl rfl rfl (decide_eq_false h60)) ?_
        refine WO.v 23 rfl rfl (r_moveB rfl rfl) ?_
        refine WO.v 24 rfl rfl (r_moveP rfl rfl) ?_
        refine WO.v 25 rfl rfl (r_nilCheck rfl rfl) ?_
        refine WO.v 26 rfl rfl (r_fieldAddr rfl rfl Try.underlying69 rfl Try.sizeOf3 (q := 0 + 1) rfl) ?_
        refine WO.v 27 rfl rfl (r_load rfl rfl Try.isAgg3 (H3.cell p0 rfl)) ?_
        by_cases ho : order = 1000000
        · refine WO.v 28 rfl rfl (r_eql rfl rfl rfl (decide_eq_true ho)) ?_
          refine WO.v 29 rfl rfl (r_pickB rfl rfl rfl) ?_
          refine WO.v 16 rfl rfl (r_assignB rfl rfl) ?_
          have hc : addC order id ah ts = 7 := by unfold addC; rw [if_pos h1, if_neg (by rw [hh]; simp), if_pos (.inr ho)]
          obtain ⟨e1, e2⟩ := addT_no (now := now) (order := order) (id := id) (ah := ah) (ts := ts) (by rw [hc]; decide)
          rw [hc, e1, e2]
          refine WO.done (Run.condT rfl (Run.seq (Run.regionL [0] rfl ?_)))
          refine WO.v 6 rfl rfl (r_assignI rfl rfl) ?_
          exact WO.done (Run.ret1 (v1 := .int .i64 7) Try.func43 Try.results43 rfl ⟨_, ⟨A, c, rfl, rfl⟩, H3⟩)
        · refine WO.v 28 rfl rfl (r_eql rfl rfl rfl (decide_eq_false ho)) ?_
          refine WO.v 29 rfl rfl (r_pickB rfl rfl rfl) ?_
          refine WO.v 16 rfl rfl (r_assignB rfl rfl) ?_
          have hc : addC order id ah ts = 0 := by unfold addC; rw [if_pos h1, if_neg (by rw [hh]; simp), if_neg (by omega)]
          obtain ⟨e1, e2⟩ := addT_yes (now := now) (order := order) (id := id) (ah := ah) (ts := ts) hc
          rw [hc, e1, e2]
          refine WO.done (Run.condF rfl (Run.skip (Run.blockEnd (Run.seq (Run.regionL [0, 1, 2, 3, 4, 5, 6, 7] rfl ?_)))))
          refine WO.v 30 rfl rfl (r_moveP rfl rfl) ?_
          refine WO.v 31 rfl rfl (r_nilCheck rfl rfl) ?_
          refine WO.v 32 rfl rfl (r_fieldAddr rfl rfl Try.underlying69 rfl Try.sizeOf3 (q := 0 + 1) rfl) ?_
          refine WO.v 33 rfl rfl (r_load rfl rfl Try.isAgg3 (H3.cell p0 rfl)) ?_
          refine WO.v 34 rfl rfl (r_add rfl rfl rfl (c := order + 1) (wrap_in (by omega) (by omega))) ?_
          refine WO.v 35 rfl rfl (r_nilCheck rfl rfl) ?_
          refine WO.v 36 rfl rfl (r_fieldAddr rfl rfl Try.underlying69 rfl Try.sizeOf3 (q := 0 + 1) rfl) ?_
          refine WO.sstore rfl rfl rfl rfl rfl rfl Try.sizeOf3 H3 p0 (.s .z) ?_
          intro w4 H4
          refine WO.done (Run.seq ?_)
          refine Run.mix 19 (fun j => if j = 17 then 18 else 19) (fun | 18 => [RT A c ts] | _ => []) (fun ii v Lp => ((fun i => Nat.beq i 17 || Nat.beq i 18) ii = false → Lp = []) ∧ match ii with
              | 0 => v = .pointer (some ⟨gt, 0, none⟩)
              | 1 => v = .pointer (some ⟨gt, 0, none⟩)
              | 2 => v = .pointer (some ⟨gt, 0, none⟩)
              | 3 => v = .pointer (some ⟨gt, 2, none⟩)
              | 4 => v = .slice A ts.length c
              | 5 => v = .int .i64 id
              | 6 => v = .pointer (some ⟨gt, 0, none⟩)
              | 7 => v = .pointer (some ⟨gt, 0, none⟩)
              | 8 => v = .pointer (some ⟨gt, 0, none⟩)
              | 9 => v = .int .i64 now
              | 10 => v = .int .i64 ah
              | 11 => v = .int .i64 (now + ah)
              | 12 => v = .pointer (some ⟨gt, 0, none⟩)
              | 13 => v = .pointer (some ⟨gt, 0, none⟩)
              | 14 => v = .pointer (some ⟨gt, 1, none⟩)
              | 15 => v = .int .i64 (order + 1)
              | 16 => v = .agg #[.int .i64 id, .int .i64 (now + ah), .int .i64 (order + 1)]
              | 17 => ∃ g, v = .slice (some ⟨g, 0, none⟩) [(⟨id, now + ah, order + 1⟩ : S57)].length [(⟨id, now + ah, order + 1⟩ : S57)].length ∧ Lp = [Rw o57 57 (.slice (some ⟨g, 0, none⟩) [(⟨id, now + ah, order + 1⟩ : S57)].length [(⟨id, now + ah, order + 1⟩ : S57)].length) [(⟨id, now + ah, order + 1⟩ : S57)]]
              | 18 => ∃ A' c' B, v = .slice A' (ts ++ [(⟨id, now + ah, order + 1⟩ : S57)]).length c' ∧ Lp = [Rw o57 57 (.slice A' (ts ++ [(⟨id, now + ah, order + 1⟩ : S57)]).length c') (ts ++ [(⟨id, now + ah, order + 1⟩ : S57)]), B]
              | _ => True)
            [Bk gt [.int .i64 now, .int .i64 (order + 1), .slice A ts.length c] 69] H4 (by kernel_rfl) rfl (by kernel_rfl) (by kernel_rfl) ?_ ?_
          · intro ii hii
            match ii, hii with
            | 0, _ =>
              exact ⟨_, rfl, fun τ' w' Lp Rest hfr hq HS => ⟨fun _ => opStep.val (r_moveP rfl (show τ' 0 = .pointer (some ⟨gt, 0, none⟩) from hfr 0 (by kernel_rfl))) ⟨[], ⟨fun _ => rfl, rfl⟩, HS⟩, fun h => nomatch h⟩⟩
            | 1, _ =>
              exact ⟨_, rfl, fun τ' w' Lp Rest hfr hq HS => ⟨fun _ => opStep.val (r_moveP rfl (show τ' 0 = .pointer (some ⟨gt, 0, none⟩) from hfr 0 (by kernel_rfl))) ⟨[], ⟨fun _ => rfl, rfl⟩, HS⟩, fun h => nomatch h⟩⟩
            | 2, _ =>
              exact ⟨_, rfl, fun τ' w' Lp Rest hfr hq HS => ⟨fun _ => opStep.val (r_nilCheck rfl (show τ' 38 = .pointer (some ⟨gt, 0, none⟩) from (hq 1 (by kernel_rfl)).2)) ⟨[], ⟨fun _ => rfl, rfl⟩, HS⟩, fun h => nomatch h⟩⟩
            | 3, _ =>
              exact ⟨_, rfl, fun τ' w' Lp Rest hfr hq HS => ⟨fun _ => opStep.val (r_fieldAddr rfl (show τ' 39 = .pointer (some ⟨gt, 0, none⟩) from (hq 2 (by kernel_rfl)).2) Try.underlying69 rfl Try.sizeOf55 (q := 2) rfl) ⟨[], ⟨fun _ => rfl, rfl⟩, HS⟩, fun h => nomatch h⟩⟩
            | 4, _ =>
              exact ⟨_, rfl, fun τ' w' Lp Rest hfr hq HS => ⟨fun _ => opStep.val (r_load rfl (show τ' 40 = .pointer (some ⟨gt, 2, none⟩) from (hq 3 (by kernel_rfl)).2) Try.isAgg55 (HS.cell p0 rfl)) ⟨[], ⟨fun _ => rfl, rfl⟩, HS⟩, fun h => nomatch h⟩⟩
            | 5, _ =>
              exact ⟨_, rfl, fun τ' w' Lp Rest hfr hq HS => ⟨fun _ => opStep.val (r_moveI rfl (show τ' 1 = .int .i64 id from hfr 1 (by kernel_rfl))) ⟨[], ⟨fun _ => rfl, rfl⟩, HS⟩, fun h => nomatch h⟩⟩
            | 6, _ =>
              exact ⟨_, rfl, fun τ' w' Lp Rest hfr hq HS => ⟨fun _ => opStep.val (r_moveP rfl (show τ' 0 = .pointer (some ⟨gt, 0, none⟩) from hfr 0 (by kernel_rfl))) ⟨[], ⟨fun _ => rfl, rfl⟩, HS⟩, fun h => nomatch h⟩⟩
            | 7, _ =>
              exact ⟨_, rfl, fun τ' w' Lp Rest hfr hq HS => ⟨fun _ => opStep.val (r_nilCheck rfl (show τ' 43 = .pointer (some ⟨gt, 0, none⟩) from (hq 6 (by kernel_rfl)).2)) ⟨[], ⟨fun _ => rfl, rfl⟩, HS⟩, fun h => nomatch h⟩⟩
            | 8, _ =>
              exact ⟨_, rfl, fun τ' w' Lp Rest hfr hq HS => ⟨fun _ => opStep.val (r_fieldAddr rfl (show τ' 44 = .pointer (some ⟨gt, 0, none⟩) from (hq 7 (by kernel_rfl)).2) Try.underlying69 rfl Try.sizeOf3 (q := 0) rfl) ⟨[], ⟨fun _ => rfl, rfl⟩, HS⟩, fun h => nomatch h⟩⟩
            | 9, _ =>
              exact ⟨_, rfl, fun τ' w' Lp Rest hfr hq HS => ⟨fun _ => opStep.val (r_load rfl (show τ' 45 = .pointer (some ⟨gt, 0, none⟩) from (hq 8 (by kernel_rfl)).2) Try.isAgg3 (HS.cell p0 rfl)) ⟨[], ⟨fun _ => rfl, rfl⟩, HS⟩, fun h => nomatch h⟩⟩
            | 10, _ =>
              exact ⟨_, rfl, fun τ' w' Lp Rest hfr hq HS => ⟨fun _ => opStep.val (r_moveI rfl (show τ' 2 = .int .i64 ah from hfr 2 (by kernel_rfl))) ⟨[], ⟨fun _ => rfl, rfl⟩, HS⟩, fun h => nomatch h⟩⟩
            | 11, _ =>
              exact ⟨_, rfl, fun τ' w' Lp Rest hfr hq HS => ⟨fun _ => opStep.val (r_add rfl (show τ' 46 = .int .i64 now from (hq 9 (by kernel_rfl)).2) (show τ' 47 = .int .i64 ah from (hq 10 (by kernel_rfl)).2) (c := now + ah) (wrap_in (by omega) (by omega))) ⟨[], ⟨fun _ => rfl, rfl⟩, HS⟩, fun h => nomatch h⟩⟩
            | 12, _ =>
              exact ⟨_, rfl, fun τ' w' Lp Rest hfr hq HS => ⟨fun _ => opStep.val (r_moveP rfl (show τ' 0 = .pointer (some ⟨gt, 0, none⟩) from hfr 0 (by kernel_rfl))) ⟨[], ⟨fun _ => rfl, rfl⟩, HS⟩, fun h => nomatch h⟩⟩
            | 13, _ =>
              exact ⟨_, rfl, fun τ' w' Lp Rest hfr hq HS => ⟨fun _ => opStep.val (r_nilCheck rfl (show τ' 49 = .pointer (some ⟨gt, 0, none⟩) from (hq 12 (by kernel_rfl)).2)) ⟨[], ⟨fun _ => rfl, rfl⟩, HS⟩, fun h => nomatch h⟩⟩
            | 14, _ =>
              exact ⟨_, rfl, fun τ' w' Lp Rest hfr hq HS => ⟨fun _ => opStep.val (r_fieldAddr rfl (show τ' 50 = .pointer (some ⟨gt, 0, none⟩) from (hq 13 (by kernel_rfl)).2) Try.underlying69 rfl Try.sizeOf3 (q := 1) rfl) ⟨[], ⟨fun _ => rfl, rfl⟩, HS⟩, fun h => nomatch h⟩⟩
            | 15, _ =>
              exact ⟨_, rfl, fun τ' w' Lp Rest hfr hq HS => ⟨fun _ => opStep.val (r_load rfl (show τ' 51 = .pointer (some ⟨gt, 1, none⟩) from (hq 14 (by kernel_rfl)).2) Try.isAgg3 (HS.cell p0 rfl)) ⟨[], ⟨fun _ => rfl, rfl⟩, HS⟩, fun h => nomatch h⟩⟩
            | 16, _ =>
              refine ⟨_, rfl, fun τ' w' Lp Rest hfr hq HS => ⟨fun _ => ?_, fun h => nomatch h⟩⟩
              have h42 : τ' 42 = .int .i64 id := (hq 5 (by kernel_rfl)).2
              have h48 : τ' 48 = .int .i64 (now + ah) := (hq 11 (by kernel_rfl)).2
              have h52 : τ' 52 = .int .i64 (order + 1) := (hq 15 (by kernel_rfl)).2
              exact opStep.val (r_build rfl (build57 _ _ _ _) (bparts3 h42 h48 h52)) ⟨_, ⟨fun _ => rfl, rfl⟩, HS⟩
            | 17, _ =>
              refine ⟨_, rfl, fun τ' w' Lp Rest hfr hq HS => ⟨fun _ => ?_, fun h => nomatch h⟩⟩
              have h53 : τ' 53 = .agg #[.int .i64 id, .int .i64 (now + ah), .int .i64 (order + 1)] := (hq 16 (by kernel_rfl)).2
              exact opStep.val (r_lit rfl (lit1 (⟨id, now + ah, order + 1⟩ : S57) w') (bparts1 h53)) ⟨_, ⟨fun h => Bool.noConfusion h, _, rfl, rfl⟩, St.into (X := [_]) (HS.row_new (ow := o57) (e := 57) (xs := [(⟨id, now + ah, order + 1⟩ : S57)]) (vss := [[.int .i64 id, .int .i64 (now + ah), .int .i64 (order + 1)]]) rfl (own_one_ (flat57 (k57_mk _ (⟨id, now + ah, order + 1⟩ : S57)))) (show 1 ≤ maxLen by decide))⟩
            | 18, _ =>
              refine ⟨_, rfl, fun τ' w' Lp Rest hfr hq HS => ⟨fun _ => ?_, fun h => nomatch h⟩⟩
              obtain ⟨g, h54, hL⟩ : ∃ g, τ' 54 = .slice (some ⟨g, 0, none⟩) [(⟨id, now + ah, order + 1⟩ : S57)].length [(⟨id, now + ah, order + 1⟩ : S57)].length ∧ Lp 17 = [Rw o57 57 (.slice (some ⟨g, 0, none⟩) [(⟨id, now + ah, order + 1⟩ : S57)].length [(⟨id, now + ah, order + 1⟩ : S57)].length) [(⟨id, now + ah, order + 1⟩ : S57)]] := (hq 17 (by kernel_rfl)).2
              have h41 : τ' 41 = .slice A ts.length c := (hq 4 (by kernel_rfl)).2
              have HS2 : St w2 S ([Bk gt [.int .i64 now, .int .i64 (order + 1), .slice A ts.length c] 69] ++ ([RT A c ts] ++ (Lp 17 ++ [])) ++ Rest) w' := HS
              rw [hL] at HS2
              obtain ⟨A', c', w'', hr, H'⟩ := append_flat (P := Try.prog) (t := 55) (ty := 55) (e := 57) (c2 := [(⟨id, now + ah, order + 1⟩ : S57)].length) (ow := o57) Try.underlying55 info57 rfl (Nat.succ_pos 2) flat57 HS2 p1 (HS2.rdC p2) (by simp only [List.length_cons, List.length_nil]; omega) (by simp only [List.length_cons, List.length_nil]; omega)
              exact opStep.val (r_append rfl h41 h54 hr) ⟨_, ⟨fun h => Bool.noConfusion h, A', c', _, rfl, rfl⟩, H'⟩
            | n + 19, hn => exact absurd hn (by omega)
          · intro τ' w9 Lp hQ hfr HS'
            rw [fm_pick (pr := fun i => Nat.beq i 17 || Nat.beq i 18) (l := [18]) (fun j hj => (hQ j hj).1) (by kernel_rfl)] at HS'
            have HS := HS'
            obtain ⟨A', c', B, h55, hL⟩ : ∃ A' c' B, τ' 55 = .slice A' (ts ++ [(⟨id, now + ah, order + 1⟩ : S57)]).length c' ∧ Lp 18 = [Rw o57 57 (.slice A' (ts ++ [(⟨id, now + ah, order + 1⟩ : S57)]).length c') (ts ++ [(⟨id, now + ah, order + 1⟩ : S57)]), B] := (hQ 18 (by decide)).2
            have h37 : τ' 37 = .pointer (some ⟨gt, 0, none⟩) := (hQ 0 (by decide)).2
            rw [List.flatMap_cons, hL] at HS
            have HB : St w2 S [Bk gt [.int .i64 now, .int .i64 (order + 1), .slice A ts.length c] 69, Rw o57 57 (.slice A' (ts ++ [(⟨id, now + ah, order + 1⟩ : S57)]).length c') (ts ++ [(⟨id, now + ah, order + 1⟩ : S57)])] w9 := HS.sel (.c q0 (.c q0 .n))
            clear HS HS' hQ hfr hL
            refine WO.v 56 rfl rfl (r_nilCheck rfl h37) ?_
            refine WO.v 57 rfl rfl (r_fieldAddr rfl rfl Try.underlying69 rfl Try.sizeOf55 (q := 0 + 2) rfl) ?_
            refine WO.sstore rfl rfl rfl rfl h55 rfl Try.sizeOf55 HB p0 (.s (.s .z)) ?_
            intro wS HS
            refine WO.done (Run.seq (Run.regionL [0] rfl ?_))
            refine WO.v 6 rfl rfl (r_assignI rfl rfl) ?_
            exact WO.done (Run.ret1 (v1 := .int .i64 0) Try.func43 Try.results43 rfl ⟨_, ⟨A', c', rfl, rfl⟩, HS⟩)
  · rw [decide_eq_false h1]
    have hc : addC order id ah ts = 4 := by unfold addC; rw [if_neg h1]
    obtain ⟨e1, e2⟩ := addT_no (now := now) (order := order) (id := id) (ah := ah) (ts := ts) (by rw [hc]; decide)
    rw [hc, e1, e2]
    refine WO.v 10 rfl rfl (r_not rfl rfl rfl) ?_
    refine WO.v 7 rfl rfl (r_assignB rfl rfl) ?_
    refine WO.done (Run.condT rfl (Run.seq (Run.regionL [0] rfl ?_)))
    refine WO.v 6 rfl rfl (r_assignI rfl rfl) ?_
    exact WO.done (Run.ret1 (v1 := .int .i64 4) Try.func43 Try.results43 rfl ⟨_, ⟨A, c, rfl, rfl⟩, H⟩)
set_option maxHeartbeats 1000000 in
theorem implAdd_tri (now order : Int) (A : Option Addr) (c : Nat) (lv : List (List (List S57))) (id ah : Int) (w : World) (hr : Kd.C (Kd.slice 55 (Kd.slice 57 k57)) w A lv.length lv) (hbig : lv.flatten.flatten.length ≤ 1048576) :
    Tri Try.prog 25 #[.agg #[.int .i64 now, .int .i64 order, .slice A lv.length c], .int .i64 id, .int .i64 ah] w [] (AddQ now order lv id ah) := by
  refine tri_of_run0 (fn := Try.f25) (n := 24) Try.func25 rfl Try.ntmps25 (Nat.le_of_ble_eq_true rfl) fun H => ?_
  refine Run.seq (Run.regionL [0, 1, 2] rfl ?_)
  refine WO.sbox 3 (cs := [.int .i64 now, .int .i64 order, .slice A lv.length c]) rfl rfl rfl rfl H ?_
  intro g2 w1 H1
  refine WO.salloc 6 (cs := [.int .i64 0, .int .i64 0, .slice none 0 0]) rfl rfl rfl Try.zeroValue29 rfl H1 ?_
  intro g4 w2 H2
  refine WO.v 7 rfl rfl (r_assignI rfl rfl) ?_
  refine WO.done (Run.seq (Run.regionL [0, 1, 2, 3, 4, 5, 6, 7] rfl ?_))
  refine WO.v 12 rfl rfl (r_loadK (vs := [.int .i64 now, .int .i64 order, .slice A lv.length c]) rfl rfl Try.isAgg29 Try.sizeOf29 rfl (H2.cells p1)) ?_
  refine WO.scall 13 rfl rfl Try.call38 H2 .n (unwind_tri sort_rw now order A c lv w2 (Kd.C_below hr H2.below) hbig) rfl rfl ?_
  rintro e LQ w3 ⟨A', c', ts, b, rfl, rfl, hb1, hb0⟩ H3
  refine ⟨_, rfl, ?_⟩
  refine WO.v 11 rfl rfl (r_moveT rfl rfl) ?_
  refine WO.v 14 rfl rfl (r_extract rfl rfl rfl) ?_
  refine WO.v 15 rfl rfl (r_extract rfl rfl rfl) ?_
  refine WO.salloc 8 (cs := [.int .i64 0, .int .i64 0, .slice none 0 0]) rfl rfl rfl Try.zeroValue69 rfl H3 ?_
  intro g6 w4 H4
  refine WO.sstoreK (vs := [.int .i64 now, .int .i64 order, .slice A' ts.length c']) rfl rfl rfl rfl rfl rfl rfl Try.sizeOf69 rfl H4 p0 rfl ?_
  intro w5 H5
  refine WO.v 9 rfl rfl (r_assignB rfl rfl) ?_
  refine WO.done (Run.seq (Run.seq (Run.regionL [0, 1] rfl ?_)))
  refine WO.v 16 rfl rfl (r_moveB rfl rfl) ?_
  refine WO.v 17 rfl rfl (r_not rfl rfl rfl) ?_
  cases b with
  | false =>
    refine WO.done (Run.condT rfl (Run.seq (Run.regionL [0, 1, 2] rfl ?_)))
    refine WO.v 18 rfl rfl (r_build rfl (build29z _) rfl) ?_
    refine WO.sstoreK (vs := [.int .i64 0, .int .i64 0, .slice none 0 0]) rfl rfl rfl rfl rfl rfl rfl Try.sizeOf29 rfl H5 p2 rfl ?_
    intro wS HS
    refine WO.v 7 rfl rfl (r_assignI rfl rfl) ?_
    exact WO.done (Run.ret2 (v2 := .int .i64 1) Try.func25 Try.results25 ⟨_, rfl, run_loadVarK Try.isAgg29 Try.sizeOf29 rfl (HS.cells p2)⟩ rfl ⟨_, ⟨0, 0, [], 1, none, 0, rfl, rfl, .inl ⟨hb0 rfl, rfl, rfl, rfl, rfl⟩⟩, (HS.row_nil o54 54).sel (.c q0 .n)⟩)
  | true =>
    obtain ⟨hG, hp, hso⟩ := hb1 rfl
    have hfew : ts.length ≤ 60 := by rw [hp.length_eq]; exact hG.few
    have hn0 := hG.n0
    have hn1 := hG.n1
    have ho0 := hG.o0
    have ho1 := hG.o1
    have htm : ∀ x ∈ addT now order id ah ts, 0 ≤ x.f1 ∧ x.f1 ≤ 9223372036854775807 := fun x hx => by
      have hold : ∀ x ∈ ts, 0 ≤ x.f1 ∧ x.f1 ≤ 9223372036854775807 := fun x hx => by have := hG.times x (hp.mem_iff.1 hx); omega
      rcases addC_cases order id ah ts with ⟨h0, h⟩ | ⟨h0, _, h⟩ | ⟨h0, _, _, h⟩ | ⟨h0, _, _, h⟩
      · rw [(addT_no (by rw [h]; decide)).1] at hx; exact hold x hx
      · rw [(addT_no (by rw [h]; decide)).1] at hx; exact hold x hx
      · rw [(addT_no (by rw [h]; decide)).1] at hx; exact hold x hx
      · rw [(addT_yes h).1] at hx
        rcases List.mem_append.1 hx with hx | hx
        · exact hold x hx
        · rw [List.mem_singleton.1 hx]; show 0 ≤ now + ah ∧ now + ah ≤ _; omega
    have hlen : (addT now order id ah ts).length ≤ 61 := by
      unfold addT
      split
      · rw [List.length_append]; simp only [List.length_cons, List.length_nil]; omega
      · omega
    refine WO.done (Run.condF rfl (Run.skip (Run.seq (Run.regionL [0, 1, 2, 3] rfl ?_))))
    refine WO.v 19 rfl rfl (r_moveI rfl rfl) ?_
    refine WO.v 20 rfl rfl (r_moveI rfl rfl) ?_
    refine WO.scall 21 rfl rfl Try.call43 H5 (.c q0 (.c q0 .n)) (add_tri g6 now order A' c' ts id ah w5 (by omega) hn0 hn1 ho0 ho1) rfl rfl ?_
    rintro e LQ w6 ⟨A3, c3, rfl, rfl⟩ H6
    refine ⟨_, rfl, ?_⟩
    refine WO.v 10 rfl rfl (r_assignI rfl rfl) ?_
    refine WO.done (Run.seq (Run.regionL [0, 1, 2, 3] rfl ?_))
    refine WO.scall 22 rfl rfl Try.call47 H6 (.c q0 (.c q0 .n)) (wheel_tri g6 now (addO order id ah ts) A3 c3 (addT now order id ah ts) w6 hn0 (by omega) htm (by omega)) rfl rfl ?_
    rintro e LQ w7 ⟨A2, c2, rfl, rfl⟩ H7
    refine ⟨_, rfl, ?_⟩
    refine WO.v 23 rfl rfl (r_moveI rfl rfl) ?_
    refine WO.sstoreK (vs := [.int .i64 now, .int .i64 (addO order id ah ts), .slice A2 (deal now (addT now order id ah ts)).length c2]) rfl rfl rfl rfl rfl rfl rfl Try.sizeOf29 rfl H7 p3 rfl ?_
    intro wS HS
    refine WO.v 7 rfl rfl (r_assignI rfl rfl) ?_
    exact WO.done (Run.ret2 (v2 := .int .i64 (addC order id ah ts)) Try.func25 Try.results25 ⟨_, rfl, run_loadVarK Try.isAgg29 Try.sizeOf29 rfl (HS.cells p3)⟩ rfl ⟨_, ⟨now, addO order id ah ts, deal now (addT now order id ah ts), addC order id ah ts, A2, c2, rfl, rfl, .inr ⟨hG, rfl, by unfold addO; rw [addC_perm hp], hG.deal_addT hp hso id ah, addC_perm hp⟩⟩, HS.sel (.c q0 .n)⟩)
end Go.Proofs.Ytojpimpfpjhflaa.Wh
namespace Go.Proofs.Ytojpimpfpjhflaa.Wh
open Go.RowKit Go.Proofs.Ytojpimpfpjhflaa.Fw Go.Proofs.YtojpimpfpjhflaaW.PrintWords Go.Proofs.Ytojpimpfpjhflaa.PFnExactWheelOK
set_option linter.unusedVariables false
set_option linter.unusedSimpArgs false
theorem where_calls (now at_ : Int) (w : World) (h0 : 0 ≤ now) (h1 : now ≤ 1000000) (h2 : 0 ≤ at_) (h3 : at_ ≤ 1000500) :
    Calls Try.prog 35 #[.int .i64 now, .int .i64 at_] w fun e w' => e = .returned (.tuple #[.int .i64 (placeP at_ now).1, .int .i64 (placeP at_ now).2]) ∧ Below w.heap.size w w' := by
  obtain ⟨k, hk⟩ := (where_f now at_ h0 h1 h2 h3).ex
  exact (spec_l11Where.calls k now at_ _ _ w hk).mono fun e w' h => ⟨h.1, h.2.below⟩
/-- A timer is put into a slot by its order. -/
def insO (x : S57) (sl : List S57) : List S57 := sl.takeWhile (fun y => decide (y.f2 < x.f2)) ++ [x] ++ sl.dropWhile (fun y => decide (y.f2 < x.f2))
def putO (now : Int) (x : S57) (lv : List (List (List S57))) : List (List (List S57)) :=
  lv.set (placeP x.f1 now).1.toNat ((lv.getD (placeP x.f1 now).1.toNat []).set (placeP x.f1 now).2.toNat (insO x ((lv.getD (placeP x.f1 now).1.toNat []).getD (placeP x.f1 now).2.toNat [])))
theorem putO_at {now : Int} {x : S57} {lv : List (List (List S57))} {l s : Nat} (h : placeP x.f1 now = ((l : Int), (s : Int))) : putO now x lv = lv.set l ((lv.getD l []).set s (insO x ((lv.getD l []).getD s []))) := by
  unfold putO
  rw [h]
  rfl
theorem insO_cut (x : S57) (sl : List S57) (i : Nat) (hi : i ≤ sl.length) (h1 : ∀ y ∈ sl.take i, y.f2 < x.f2) (h2 : i < sl.length → ¬ (sl.getD i z57).f2 < x.f2) : [] ++ sl.take i ++ [x] ++ sl.drop i = insO x sl := by
  have e : sl = sl.take i ++ sl.drop i := (List.take_append_drop i sl).symm
  have a1 : (sl.take i).takeWhile (fun y => decide (y.f2 < x.f2)) = sl.take i := by
    generalize sl.take i = a at h1
    induction a with
    | nil => rfl
    | cons y a ih => rw [List.takeWhile_cons, if_pos (decide_eq_true (h1 y List.mem_cons_self)), ih fun z hz => h1 z (List.mem_cons_of_mem _ hz)]
  have a2 : (sl.drop i).takeWhile (fun y => decide (y.f2 < x.f2)) = [] ∧ (sl.drop i).dropWhile (fun y => decide (y.f2 < x.f2)) = sl.drop i := by
    rcases Nat.lt_or_ge i sl.length with h | h
    · rw [drop_getD sl i z57 h, List.takeWhile_cons, List.dropWhile_cons, if_neg (by simpa using h2 h), if_neg (by simpa using h2 h)]
      exact ⟨rfl, rfl⟩
    · rw [List.drop_of_length_le h]; exact ⟨rfl, rfl⟩
  have a3 : ∀ (a b : List S57), a.takeWhile (fun y => decide (y.f2 < x.f2)) = a → (a ++ b).takeWhile (fun y => decide (y.f2 < x.f2)) = a ++ b.takeWhile (fun y => decide (y.f2 < x.f2)) ∧ (a ++ b).dropWhile (fun y => decide (y.f2 < x.f2)) = b.dropWhile (fun y => decide (y.f2 < x.f2)) := by
    intro a b ha
    induction a with
    | nil => exact ⟨rfl, rfl⟩
    | cons y a ih =>
      rw [List.takeWhile_cons] at ha
      split at ha
      · rename_i hy
        obtain ⟨e1, e2⟩ := ih (List.cons.inj ha).2
        rw [List.cons_append, List.takeWhile_cons, if_pos hy, List.dropWhile_cons, if_pos hy, e1, e2]
        exact ⟨rfl, rfl⟩
      · cases ha
  obtain ⟨e1, e2⟩ := a3 _ (sl.drop i) a1
  rw [← e] at e1 e2
  unfold insO
  rw [e1, e2, a2.1, a2.2, List.append_nil, List.nil_append]
set_option maxHeartbeats 1000000 in
set_option maxRecDepth 20000 in
theorem put_tri (now order : Int) (AW : Option Addr) (co : Nat) (lv : List (List (List S57))) (x : S57) (w : World) (h3l : lv.length = 3) (h8l : ∀ l, l < 3 → (lv.getD l []).length = 8) (hsmall : ∀ l s, ((lv.getD l []).getD s []).length ≤ 1048576) (hn0 : 0 ≤ now) (hn1 : now ≤ 1000000) (hx0 : 0 ≤ x.f1) (hx1 : x.f1 ≤ 1000500) :
    Tri Try.prog 66 #[.agg #[.int .i64 now, .int .i64 order, .slice AW lv.length co], .agg #[.int .i64 x.f0, .int .i64 x.f1, .int .i64 x.f2]] w [Rw o54 54 (.slice AW lv.length co) lv] fun e LQ => e = .returned (.tuple #[]) ∧ LQ = [Rw o54 54 (.slice AW (putO now x lv).length co) (putO now x lv)] := by
  refine tri_of_run (fn := Try.f66) (n := 59) Try.func66 rfl Try.ntmps66 (Nat.le_of_ble_eq_true rfl) fun S H => ?_
  obtain ⟨gl, rfl, _⟩ := H.lies p0 (by omega)
  obtain ⟨l, s, hl, hs, hpl⟩ := place_lt (at_ := x.f1) (now := now) hx0
  rw [putO_at hpl]
  have hgl : lv[l]? = some (lv.getD l []) := getElem?_getD [] (by omega)
  have hgs : (lv.getD l [])[s]? = some ((lv.getD l []).getD s []) := getElem?_getD [] (by rw [h8l l hl]; exact hs)
  have hllev := h8l l hl
  have hle := hsmall l s
  refine Run.seq (Run.regionL [0, 1] rfl ?_)
  refine WO.sbox 2 (cs := [.int .i64 now, .int .i64 order, .slice (some ⟨gl, 0, none⟩) lv.length co]) rfl rfl rfl rfl H ?_
  intro g2 w1 H1
  refine WO.sbox 3 (cs := [.int .i64 x.f0, .int .i64 x.f1, .int .i64 x.f2]) rfl rfl rfl rfl H1 ?_
  intro g3 w2 H2
  refine WO.done (Run.seq (Run.regionL [0, 1, 2, 3, 4, 5, 6, 7, 8, 9] rfl ?_))
  refine WO.v 9 rfl rfl (r_fieldAddr rfl rfl Try.underlying29 rfl Try.sizeOf3 (q := 0 + 0) rfl) ?_
  refine WO.v 10 rfl rfl (r_load rfl rfl Try.isAgg3 (H2.cell p1 rfl)) ?_
  refine WO.v 11 rfl rfl (r_fieldAddr rfl rfl Try.underlying57 rfl Try.sizeOf3 (q := 0 + 1) rfl) ?_
  refine WO.v 12 rfl rfl (r_load rfl rfl Try.isAgg3 (H2.cell p0 rfl)) ?_
  refine WO.call_ 13 rfl rfl Try.call35 (where_calls now x.f1 w2 hn0 hn1 hx0 hx1) rfl rfl ?_
  rintro e w3 ⟨rfl, hb3⟩
  refine ⟨_, rfl, ?_⟩
  have H3 := H2.step hb3
  rw [hpl]
  refine WO.v 8 rfl rfl (r_moveT rfl rfl) ?_
  refine WO.v 14 rfl rfl (r_extract rfl rfl rfl) ?_
  refine WO.v 15 rfl rfl (r_extract rfl rfl rfl) ?_
  refine WO.v 4 rfl rfl (r_assignI rfl rfl) ?_
  refine WO.v 5 rfl rfl (r_assignI rfl rfl) ?_
  obtain ⟨A1, c1, H4⟩ := H3.takeR p2 l hgl
  obtain ⟨A2, c2, H5⟩ := H4.takeR p0 s hgs
  obtain ⟨_, _, gl1, rfl, _⟩ := H5.hole p1
  generalize hsd : (lv.getD l []).getD s [] = sl at *
  generalize hld : lv.getD l [] = lev at *
  refine WO.done (Run.seq (Run.regionL [0, 1, 2, 3, 4, 5, 6, 7, 8] rfl ?_))
  refine WO.v 16 rfl rfl (r_fieldAddr rfl rfl Try.underlying29 rfl Try.sizeOf27 (q := 0 + 2) rfl) ?_
  refine WO.v 17 rfl rfl (r_load rfl rfl Try.isAgg27 (H5.cell p3 rfl)) ?_
  refine WO.v 18 rfl rfl (r_moveI rfl rfl) ?_
  refine WO.v 19 rfl rfl (r_indexAddr rfl rfl rfl Try.underlying27 Try.sizeOf54 (by omega) (by omega) (q := 0 + l) (by rw [Int.toNat_natCast, Nat.mul_one])) ?_
  refine WO.v 20 rfl rfl (r_load rfl rfl Try.isAgg54 (H5.holeCell p4 rfl)) ?_
  refine WO.v 21 rfl rfl (r_moveI rfl rfl) ?_
  refine WO.v 22 rfl rfl (r_indexAddr rfl rfl rfl Try.underlying54 Try.sizeOf55 (by omega) (by omega) (q := 0 + s) (by rw [Int.toNat_natCast, Nat.mul_one])) ?_
  refine WO.v 23 rfl rfl (r_load rfl rfl Try.isAgg55 (H5.holeCell p1 rfl)) ?_
  refine WO.v 6 rfl rfl (r_assignL rfl rfl) ?_
  refine WO.done (Run.seq (Run.regionL [0] rfl ?_))
  refine WO.v 7 rfl rfl (r_assignI rfl rfl) ?_
  refine WO.done (Run.seq (Run.block ?_))
  refine Run.loopInv (fun m τ wr => ∃ (i : Nat), i + m = sl.length ∧ τ 2 = .pointer (some ⟨g2, 0, none⟩) ∧ τ 3 = .pointer (some ⟨g3, 0, none⟩) ∧ τ 4 = .int .i64 l ∧ τ 5 = .int .i64 s ∧ τ 6 = .slice A2 sl.length c2 ∧ τ 7 = .int .i64 i ∧ (∀ y ∈ sl.take i, y.f2 < x.f2) ∧
      St w S [Rw o57 57 (.slice A2 sl.length c2) sl, RwH o55 55 (.slice (some ⟨gl1, 0, none⟩) lev.length c1) lev s [.slice A2 sl.length c2], Bk g3 [.int .i64 x.f0, .int .i64 x.f1, .int .i64 x.f2] 57, Bk g2 [.int .i64 now, .int .i64 order, .slice (some ⟨gl, 0, none⟩) lv.length co] 29, RwH o54 54 (.slice (some ⟨gl, 0, none⟩) lv.length co) lv l [.slice (some ⟨gl1, 0, none⟩) lev.length c1]] wr) sl.length ⟨0, by omega, rfl, rfl, rfl, rfl, rfl, rfl, fun y hy => by simp at hy, H5⟩ ?_
  clear H H1 H2 H3 H4 H5
  rintro m τ wr ih ⟨i, hm, h2, h3, h4, h5, h6, h7, hlt, H⟩
  have stop : (i < sl.length → ¬ (sl.getD i z57).f2 < x.f2) → ∀ (τ : Tm) (wr : World), τ 2 = .pointer (some ⟨g2, 0, none⟩) → τ 3 = .pointer (some ⟨g3, 0, none⟩) → τ 4 = .int .i64 l → τ 5 = .int .i64 s → τ 6 = .slice A2 sl.length c2 → τ 7 = .int .i64 i → St w S [Rw o57 57 (.slice A2 sl.length c2) sl, RwH o55 55 (.slice (some ⟨gl1, 0, none⟩) lev.length c1) lev s [.slice A2 sl.length c2], Bk g3 [.int .i64 x.f0, .int .i64 x.f1, .int .i64 x.f2] 57, Bk g2 [.int .i64 now, .int .i64 order, .slice (some ⟨gl, 0, none⟩) lv.length co] 29, RwH o54 54 (.slice (some ⟨gl, 0, none⟩) lv.length co) lv l [.slice (some ⟨gl1, 0, none⟩) lev.length c1]] wr → Run Try.prog 66 59 (fun e w' => ∃ LQ, (e = .returned (.tuple #[]) ∧ LQ = [Rw o54 54 (.slice (some ⟨gl, 0, none⟩) (lv.set l (lev.set s (insO x sl))).length co) (lv.set l (lev.set s (insO x sl)))]) ∧ St w S LQ w') [.code (Go.Code.region 6 #[{ dst := some 40, op := Go.Op.fieldAddr 29 (Go.Operand.tmp 2) 2, type := 0, pos := "l11_wheel.go:94", after := #[], guard := none }, { dst := some 41, op := Go.Op.load 27 (Go.Operand.tmp 40), type := 27, pos := "l11_wheel.go:94", after := #[{ on := 0, ground := Go.Ground.data }], guard := none }, { dst := some 42, op := Go.Op.move (Go.Operand.tmp 4), type := 3, pos := "l11_wheel.go:94", after := #[], guard := none }, { dst := some 43, op := Go.Op.indexAddr 27 (Go.Operand.tmp 41) (Go.Operand.tmp 42), type := 0, pos := "l11_wheel.go:94", after := #[{ on := 1, ground := Go.Ground.data }, { on := 2, ground := Go.Ground.data }], guard := none }, { dst := some 44, op := Go.Op.load 54 (Go.Operand.tmp 43), type := 54, pos := "l11_wheel.go:94", after := #[{ on := 3, ground := Go.Ground.data }], guard := none }, { dst := some 45, op := Go.Op.move (Go.Operand.tmp 5), type := 3, pos := "l11_wheel.go:94", after := #[], guard := none }, { dst := some 46, op := Go.Op.buildSlice 55 0 #[], type := 55, pos := "l11_wheel.go:94", after := #[], guard := none }, { dst := some 47, op := Go.Op.move (Go.Operand.tmp 6), type := 55, pos := "l11_wheel.go:94", after := #[], guard := none }, { dst := some 48, op := Go.Op.move (Go.Operand.tmp 7), type := 3, pos := "l11_wheel.go:94", after := #[], guard := none }, { dst := some 49, op := Go.Op.slice 55 (Go.Operand.tmp 47) none (some (Go.Operand.tmp 48)) none, type := 55, pos := "l11_wheel.go:94", after := #[{ on := 7, ground := Go.Ground.data }, { on := 8, ground := Go.Ground.data }], guard := none }, { dst := some 50, op := Go.Op.call { callee := Go.Callee.builtin Go.Builtin.append, args := #[Go.Operand.tmp 46, Go.Operand.tmp 49], argTypes := #[55, 55] }, type := 55, pos := "l11_wheel.go:94", after := #[{ on := 6, ground := Go.Ground.data }, { on := 9, ground := Go.Ground.data }], guard := none }, { dst := some 51, op := Go.Op.load 57 (Go.Operand.tmp 3), type := 57, pos := "l11_wheel.go:94", after := #[], guard := none }, { dst := some 52, op := Go.Op.buildSlice 55 1 #[(0, Go.Operand.tmp 51)], type := 55, pos := "l11_wheel.go:94", after := #[{ on := 11, ground := Go.Ground.data }], guard := none }, { dst := some 53, op := Go.Op.call { callee := Go.Callee.builtin Go.Builtin.append, args := #[Go.Operand.tmp 50, Go.Operand.tmp 52], argTypes := #[55, 55] }, type := 55, pos := "l11_wheel.go:94", after := #[{ on := 10, ground := Go.Ground.data }, { on := 12, ground := Go.Ground.data }, { on := 10, ground := Go.Ground.chain }], guard := none }, { dst := some 54, op := Go.Op.move (Go.Operand.tmp 6), type := 55, pos := "l11_wheel.go:94", after := #[], guard := none }, { dst := some 55, op := Go.Op.move (Go.Operand.tmp 7), type := 3, pos := "l11_wheel.go:94", after := #[], guard := none }, { dst := some 56, op := Go.Op.slice 55 (Go.Operand.tmp 54) (some (Go.Operand.tmp 55)) none none, type := 55, pos := "l11_wheel.go:94", after := #[{ on := 14, ground := Go.Ground.data }, { on := 15, ground := Go.Ground.data }], guard := none }, { dst := some 57, op := Go.Op.call { callee := Go.Callee.builtin Go.Builtin.append, args := #[Go.Operand.tmp 53, Go.Operand.tmp 56], argTypes := #[55, 55] }, type := 55, pos := "l11_wheel.go:94", after := #[{ on := 13, ground := Go.Ground.data }, { on := 16, ground := Go.Ground.data }, { on := 13, ground := Go.Ground.chain }], guard := none }, { dst := some 58, op := Go.Op.indexAddr 54 (Go.Operand.tmp 44) (Go.Operand.tmp 45), type := 0, pos := "l11_wheel.go:94", after := #[{ on := 4, ground := Go.Ground.data }, { on := 5, ground := Go.Ground.data }, { on := 0, ground := Go.Ground.phase }, { on := 1, ground := Go.Ground.phase }, { on := 2, ground := Go.Ground.phase }, { on := 3, ground := Go.Ground.phase }, { on := 4, ground := Go.Ground.phase }, { on := 5, ground := Go.Ground.phase }, { on := 6, ground := Go.Ground.phase }, { on := 7, ground := Go.Ground.phase }, { on := 8, ground := Go.Ground.phase }, { on := 9, ground := Go.Ground.phase }, { on := 10, ground := Go.Ground.phase }, { on := 11, ground := Go.Ground.phase }, { on := 12, ground := Go.Ground.phase }, { on := 13, ground := Go.Ground.phase }, { on := 14, ground := Go.Ground.phase }, { on := 15, ground := Go.Ground.phase }, { on := 16, ground := Go.Ground.phase }, { on := 17, ground := Go.Ground.phase }], guard := none }, { dst := none, op := Go.Op.store 55 (Go.Operand.tmp 58) (Go.Operand.tmp 57), type := 0, pos := "l11_wheel.go:94", after := #[{ on := 18, ground := Go.Ground.data }, { on := 17, ground := Go.Ground.data }, { on := 17, ground := Go.Ground.chain }, { on := 0, ground := Go.Ground.phase }, { on := 1, ground := Go.Ground.phase }, { on := 2, ground := Go.Ground.phase }, { on := 3, ground := Go.Ground.phase }, { on := 4, ground := Go.Ground.phase }, { on := 5, ground := Go.Ground.phase }, { on := 6, ground := Go.Ground.phase }, { on := 7, ground := Go.Ground.phase }, { on := 8, ground := Go.Ground.phase }, { on := 9, ground := Go.Ground.phase }, { on := 10, ground := Go.Ground.phase }, { on := 11, ground := Go.Ground.phase }, { on := 12, ground := Go.Ground.phase }, { on := 13, ground := Go.Ground.phase }, { on := 14, ground := Go.Ground.phase }, { on := 15, ground := Go.Ground.phase }, { on := 16, ground := Go.Ground.phase }, { on := 17, ground := Go.Ground.phase }], guard := none }] true)] τ wr := by
    intro hstop τ wr h2 h3 h4 h5 h6 h7 H
    have hcut := insO_cut x sl i (by omega) hlt hstop
    have hc2 := (H.rd p0).2.1
    clear hlt
    generalize hqd : (if c2 = i then 0 else 0 + i * 3) = q
    refine Run.mix 18 (fun j => if j = 6 then 10 else if j = 10 then 13 else if j = 12 then 13 else if j = 13 then 17 else 18) (fun _ => []) (fun ii v Lp => ((fun i => Nat.beq i 6 || Nat.beq i 10 || Nat.beq i 12 || Nat.beq i 13 || Nat.beq i 17) ii = false → Lp = []) ∧ match ii with
        | 0 => v = .pointer (some ⟨g2, 2, none⟩)
        | 1 => v = .slice (some ⟨gl, 0, none⟩) lv.length co
        | 2 => v = .int .i64 (l : Int)
        | 3 => v = .pointer (some ⟨gl, 0 + l, none⟩)
        | 4 => v = .slice (some ⟨gl1, 0, none⟩) lev.length c1
        | 5 => v = .int .i64 (s : Int)
        | 6 => ∃ g, v = .slice (some ⟨g, 0, none⟩) ([] : List S57).length ([] : List S57).length ∧ Lp = [Rw o57 57 (.slice (some ⟨g, 0, none⟩) ([] : List S57).length ([] : List S57).length) ([] : List S57)]
        | 7 => v = .slice A2 sl.length c2
        | 8 => v = .int .i64 (i : Int)
        | 9 => v = .slice A2 i c2
        | 10 => ∃ A' c', v = .slice A' (([] : List S57) ++ sl.take i).length c' ∧ Lp = [Rw o57 57 (.slice A' (([] : List S57) ++ sl.take i).length c') (([] : List S57) ++ sl.take i)]
        | 11 => v = .agg #[.int .i64 x.f0, .int .i64 x.f1, .int .i64 x.f2]
        | 12 => ∃ g, v = .slice (some ⟨g, 0, none⟩) [x].length [x].length ∧ Lp = [Rw o57 57 (.slice (some ⟨g, 0, none⟩) [x].length [x].length) [x]]
        | 13 => ∃ A' c' B, v = .slice A' (([] : List S57) ++ sl.take i ++ [x]).length c' ∧ Lp = [Rw o57 57 (.slice A' (([] : List S57) ++ sl.take i ++ [x]).length c') (([] : List S57) ++ sl.take i ++ [x]), B]
        | 14 => v = .slice A2 sl.length c2
        | 15 => v = .int .i64 (i : Int)
        | 16 => ∃ A' c', v = .slice A' (sl.drop i).length c' ∧ ∀ w', Kd.C k57 w' A2 sl.length sl → Kd.C k57 w' A' (sl.drop i).length (sl.drop i)
        | 17 => ∃ A' c' B, v = .slice A' (([] : List S57) ++ sl.take i ++ [x] ++ sl.drop i).length c' ∧ Lp = [Rw o57 57 (.slice A' (([] : List S57) ++ sl.take i ++ [x] ++ sl.drop i).length c') (([] : List S57) ++ sl.take i ++ [x] ++ sl.drop i), B]
        | _ => True)
      [Rw o57 57 (.slice A2 sl.length c2) sl, RwH o55 55 (.slice (some ⟨gl1, 0, none⟩) lev.length c1) lev s [.slice A2 sl.length c2], Bk g3 [.int .i64 x.f0, .int .i64 x.f1, .int .i64 x.f2] 57, Bk g2 [.int .i64 now, .int .i64 order, .slice (some ⟨gl, 0, none⟩) lv.length co] 29, RwH o54 54 (.slice (some ⟨gl, 0, none⟩) lv.length co) lv l [.slice (some ⟨gl1, 0, none⟩) lev.length c1]] H (by kernel_rfl) rfl (by kernel_rfl) (by kernel_rfl) ?_ ?_
    · intro ii hii
      match ii, hii with
      | 0, _ =>
        exact ⟨_, rfl, fun τ' w' Lp Rest hfr hq HS => ⟨fun _ => opStep.val (r_fieldAddr rfl (show τ' 2 = .pointer (some ⟨g2, 0, none⟩) from (hfr 2 (by kernel_rfl)).trans h2) Try.underlying29 rfl Try.sizeOf27 (q := 2) rfl) ⟨[], ⟨fun _ => rfl, rfl⟩, HS⟩, fun h => nomatch h⟩⟩
      | 1, _ =>
        exact ⟨_, rfl, fun τ' w' Lp Rest hfr hq HS => ⟨fun _ => opStep.val (r_load rfl (show τ' 40 = .pointer (some ⟨g2, 2, none⟩) from (hq 0 (by kernel_rfl)).2) Try.isAgg27 (HS.cell p3 rfl)) ⟨[], ⟨fun _ => rfl, rfl⟩, HS⟩, fun h => nomatch h⟩⟩
      | 2, _ =>
        exact ⟨_, rfl, fun τ' w' Lp Rest hfr hq HS => ⟨fun _ => opStep.val (r_moveI rfl (show τ' 4 = .int .i64 (l : Int) from (hfr 4 (by kernel_rfl)).trans h4)) ⟨[], ⟨fun _ => rfl, rfl⟩, HS⟩, fun h => nomatch h⟩⟩
      | 3, _ =>
        exact ⟨_, rfl, fun τ' w' Lp Rest hfr hq HS => ⟨fun _ => opStep.val (r_indexAddr rfl (show τ' 41 = .slice (some ⟨gl, 0, none⟩) lv.length co from (hq 1 (by kernel_rfl)).2) (show τ' 42 = .int .i64 (l : Int) from (hq 2 (by kernel_rfl)).2) Try.underlying27 Try.sizeOf54 (by omega) (by omega) (q := 0 + l) (by rw [Int.toNat_natCast, Nat.mul_one])) ⟨[], ⟨fun _ => rfl, rfl⟩, HS⟩, fun h => nomatch h⟩⟩
      | 4, _ =>
        exact ⟨_, rfl, fun τ' w' Lp Rest hfr hq HS => ⟨fun _ => opStep.val (r_load (v := .slice (some ⟨gl1, 0, none⟩) lev.length c1) rfl (show τ' 43 = .pointer (some ⟨gl, 0 + l, none⟩) from (hq 3 (by kernel_rfl)).2) Try.isAgg54 (HS.holeCell p4 rfl)) ⟨[], ⟨fun _ => rfl, rfl⟩, HS⟩, fun h => nomatch h⟩⟩
      | 5, _ =>
        exact ⟨_, rfl, fun τ' w' Lp Rest hfr hq HS => ⟨fun _ => opStep.val (r_moveI rfl (show τ' 5 = .int .i64 (s : Int) from (hfr 5 (by kernel_rfl)).trans h5)) ⟨[], ⟨fun _ => rfl, rfl⟩, HS⟩, fun h => nomatch h⟩⟩
      | 6, _ =>
        refine ⟨_, rfl, fun τ' w' Lp Rest hfr hq HS => ⟨fun _ => ?_, fun h => nomatch h⟩⟩
        exact opStep.val (r_lit rfl (lit55 w') rfl) ⟨_, ⟨fun h => Bool.noConfusion h, _, rfl, rfl⟩, St.into (X := [_]) (HS.row_new (ow := o57) (e := 57) (xs := ([] : List S57)) (vss := []) rfl own_nil_ (by decide))⟩
      | 7, _ =>
        exact ⟨_, rfl, fun τ' w' Lp Rest hfr hq HS => ⟨fun _ => opStep.val (r_moveL rfl (show τ' 6 = .slice A2 sl.length c2 from (hfr 6 (by kernel_rfl)).trans h6)) ⟨[], ⟨fun _ => rfl, rfl⟩, HS⟩, fun h => nomatch h⟩⟩
      | 8, _ =>
        exact ⟨_, rfl, fun τ' w' Lp Rest hfr hq HS => ⟨fun _ => opStep.val (r_moveI rfl (show τ' 7 = .int .i64 (i : Int) from (hfr 7 (by kernel_rfl)).trans h7)) ⟨[], ⟨fun _ => rfl, rfl⟩, HS⟩, fun h => nomatch h⟩⟩
      | 9, _ =>
        exact ⟨_, rfl, fun τ' w' Lp Rest hfr hq HS => ⟨fun _ => opStep.val (r_sliceHigh rfl (show τ' 47 = .slice A2 sl.length c2 from (hq 7 (by kernel_rfl)).2) (show τ' 48 = .int .i64 (i : Int) from (hq 8 (by kernel_rfl)).2) Try.underlying55 Try.sizeOf57 (by omega)) ⟨[], ⟨fun _ => rfl, rfl⟩, HS⟩, fun h => nomatch h⟩⟩
      | 10, _ =>
        refine ⟨_, rfl, fun τ' w' Lp Rest hfr hq HS => ⟨fun _ => ?_, fun h => nomatch h⟩⟩
        obtain ⟨g, h46, hL⟩ : ∃ g, τ' 46 = .slice (some ⟨g, 0, none⟩) ([] : List S57).length ([] : List S57).length ∧ Lp 6 = [Rw o57 57 (.slice (some ⟨g, 0, none⟩) ([] : List S57).length ([] : List S57).length) ([] : List S57)] := (hq 6 (by kernel_rfl)).2
        have h49 : τ' 49 = .slice A2 (sl.take i).length c2 := (show τ' 49 = .slice A2 i c2 from (hq 9 (by kernel_rfl)).2).trans (by rw [List.length_take, Nat.min_eq_left (by omega)])
        have HS2 : St w S ([Rw o57 57 (.slice A2 sl.length c2) sl, RwH o55 55 (.slice (some ⟨gl1, 0, none⟩) lev.length c1) lev s [.slice A2 sl.length c2], Bk g3 [.int .i64 x.f0, .int .i64 x.f1, .int .i64 x.f2] 57, Bk g2 [.int .i64 now, .int .i64 order, .slice (some ⟨gl, 0, none⟩) lv.length co] 29, RwH o54 54 (.slice (some ⟨gl, 0, none⟩) lv.length co) lv l [.slice (some ⟨gl1, 0, none⟩) lev.length c1]] ++ (Lp 6 ++ []) ++ Rest) w' := HS
        rw [hL] at HS2
        obtain ⟨A', c', w'', hr, H'⟩ := append_flat (P := Try.prog) (t := 55) (ty := 55) (e := 57) (c2 := c2) (ow := o57) Try.underlying55 info57 rfl (Nat.succ_pos 2) flat57 HS2 p5 (C_take (HS2.rdC p0) i) (by simp only [List.length_append, List.length_take, List.length_drop, List.length_cons, List.length_nil]; omega) (by simp only [List.length_append, List.length_take, List.length_drop, List.length_cons, List.length_nil]; omega)
        exact opStep.val (r_append rfl h46 h49 hr) ⟨_, ⟨fun h => Bool.noConfusion h, A', c', rfl, rfl⟩, H'⟩
      | 11, _ =>
        exact ⟨_, rfl, fun τ' w' Lp Rest hfr hq HS => ⟨fun _ => opStep.val (r_loadK (vs := [.int .i64 x.f0, .int .i64 x.f1, .int .i64 x.f2]) rfl (show τ' 3 = .pointer (some ⟨g3, 0, none⟩) from (hfr 3 (by kernel_rfl)).trans h3) Try.isAgg57 Try.sizeOf57 rfl (HS.cells p2)) ⟨[], ⟨fun _ => rfl, rfl⟩, HS⟩, fun h => nomatch h⟩⟩
      | 12, _ =>
        refine ⟨_, rfl, fun τ' w' Lp Rest hfr hq HS => ⟨fun _ => ?_, fun h => nomatch h⟩⟩
        have h51 : τ' 51 = .agg #[.int .i64 x.f0, .int .i64 x.f1, .int .i64 x.f2] := (hq 11 (by kernel_rfl)).2
        exact opStep.val (r_lit rfl (lit1 x w') (bparts1 h51)) ⟨_, ⟨fun h => Bool.noConfusion h, _, rfl, rfl⟩, St.into (X := [_]) (HS.row_new (ow := o57) (e := 57) (xs := [x]) (vss := [[.int .i64 x.f0, .int .i64 x.f1, .int .i64 x.f2]]) rfl (own_one_ (flat57 (k57_mk _ x))) (show 1 ≤ maxLen by decide))⟩
      | 13, _ =>
        refine ⟨_, rfl, fun τ' w' Lp Rest hfr hq HS => ⟨fun _ => ?_, fun h => nomatch h⟩⟩
        obtain ⟨A5, c5, h50, hL⟩ : ∃ A' c', τ' 50 = .slice A' (([] : List S57) ++ sl.take i).length c' ∧ Lp 10 = [Rw o57 57 (.slice A' (([] : List S57) ++ sl.take i).length c') (([] : List S57) ++ sl.take i)] := (hq 10 (by kernel_rfl)).2
        obtain ⟨g, h52, hL2⟩ : ∃ g, τ' 52 = .slice (some ⟨g, 0, none⟩) [x].length [x].length ∧ Lp 12 = [Rw o57 57 (.slice (some ⟨g, 0, none⟩) [x].length [x].length) [x]] := (hq 12 (by kernel_rfl)).2
        have HS2 : St w S ([Rw o57 57 (.slice A2 sl.length c2) sl, RwH o55 55 (.slice (some ⟨gl1, 0, none⟩) lev.length c1) lev s [.slice A2 sl.length c2], Bk g3 [.int .i64 x.f0, .int .i64 x.f1, .int .i64 x.f2] 57, Bk g2 [.int .i64 now, .int .i64 order, .slice (some ⟨gl, 0, none⟩) lv.length co] 29, RwH o54 54 (.slice (some ⟨gl, 0, none⟩) lv.length co) lv l [.slice (some ⟨gl1, 0, none⟩) lev.length c1]] ++ (Lp 10 ++ (Lp 12 ++ [])) ++ Rest) w' := HS
        rw [hL, hL2] at HS2
        obtain ⟨A', c', w'', hr, H'⟩ := append_flat (P := Try.prog) (t := 55) (ty := 55) (e := 57) (c2 := [x].length) (ow := o57) Try.underlying55 info57 rfl (Nat.succ_pos 2) flat57 HS2 p5 (HS2.rdC p6) (by simp only [List.length_append, List.length_take, List.length_drop, List.length_cons, List.length_nil]; omega) (by simp only [List.length_append, List.length_take, List.length_drop, List.length_cons, List.length_nil]; omega)
        exact opStep.val (r_append rfl h50 h52 hr) ⟨_, ⟨fun h => Bool.noConfusion h, A', c', _, rfl, rfl⟩, H'⟩
      | 14, _ =>
        exact ⟨_, rfl, fun τ' w' Lp Rest hfr hq HS => ⟨fun _ => opStep.val (r_moveL rfl (show τ' 6 = .slice A2 sl.length c2 from (hfr 6 (by kernel_rfl)).trans h6)) ⟨[], ⟨fun _ => rfl, rfl⟩, HS⟩, fun h => nomatch h⟩⟩
      | 15, _ =>
        exact ⟨_, rfl, fun τ' w' Lp Rest hfr hq HS => ⟨fun _ => opStep.val (r_moveI rfl (show τ' 7 = .int .i64 (i : Int) from (hfr 7 (by kernel_rfl)).trans h7)) ⟨[], ⟨fun _ => rfl, rfl⟩, HS⟩, fun h => nomatch h⟩⟩
      | 16, _ =>
        refine ⟨_, rfl, fun τ' w' Lp Rest hfr hq HS => ⟨fun _ => ?_, fun h => nomatch h⟩⟩
        have h54 : τ' 54 = .slice A2 sl.length c2 := (hq 14 (by kernel_rfl)).2
        have h55 : τ' 55 = .int .i64 (i : Int) := (hq 15 (by kernel_rfl)).2
        rcases Nat.eq_zero_or_pos sl.length with h0 | hpos
        · have hsl : sl = [] := List.eq_nil_of_length_eq_zero h0
          exact opStep.val (r_sliceLow0 rfl h54 h55 Try.underlying55 Try.sizeOf57 (by omega)) ⟨[], ⟨fun _ => rfl, _, _, by rw [List.length_drop], fun w2 _ => by rw [hsl, List.drop_nil]; exact ⟨rfl, Nat.zero_le _, fun h => absurd h (Nat.lt_irrefl _)⟩⟩, HS⟩
        · obtain ⟨gs, rfl, _⟩ := HS.lies p0 hpos
          exact opStep.val (r_sliceLow rfl h54 h55 Try.underlying55 Try.sizeOf57 (by omega) hqd) ⟨[], ⟨fun _ => rfl, _, _, by rw [List.length_drop], fun w2 hw => C_drop hw i (q := q) (fun h => by rw [← hqd, if_neg (by omega)]; rfl)⟩, HS⟩
      | 17, _ =>
        refine ⟨_, rfl, fun τ' w' Lp Rest hfr hq HS => ⟨fun _ => ?_, fun h => nomatch h⟩⟩
        obtain ⟨A5, c5, B5, h53, hL⟩ : ∃ A' c' B, τ' 53 = .slice A' (([] : List S57) ++ sl.take i ++ [x]).length c' ∧ Lp 13 = [Rw o57 57 (.slice A' (([] : List S57) ++ sl.take i ++ [x]).length c') (([] : List S57) ++ sl.take i ++ [x]), B] := (hq 13 (by kernel_rfl)).2
        obtain ⟨A6, c6, h56, hC⟩ : ∃ A' c', τ' 56 = .slice A' (sl.drop i).length c' ∧ ∀ w', Kd.C k57 w' A2 sl.length sl → Kd.C k57 w' A' (sl.drop i).length (sl.drop i) := (hq 16 (by kernel_rfl)).2
        have HS2 : St w S ([Rw o57 57 (.slice A2 sl.length c2) sl, RwH o55 55 (.slice (some ⟨gl1, 0, none⟩) lev.length c1) lev s [.slice A2 sl.length c2], Bk g3 [.int .i64 x.f0, .int .i64 x.f1, .int .i64 x.f2] 57, Bk g2 [.int .i64 now, .int .i64 order, .slice (some ⟨gl, 0, none⟩) lv.length co] 29, RwH o54 54 (.slice (some ⟨gl, 0, none⟩) lv.length co) lv l [.slice (some ⟨gl1, 0, none⟩) lev.length c1]] ++ (Lp 13 ++ []) ++ Rest) w' := HS
        rw [hL] at HS2
        obtain ⟨A', c', w'', hr, H'⟩ := append_flat (P := Try.prog) (t := 55) (ty := 55) (e := 57) (c2 := c6) (ow := o57) Try.underlying55 info57 rfl (Nat.succ_pos 2) flat57 HS2 p5 (hC _ (HS2.rdC p0)) (by simp only [List.length_append, List.length_take, List.length_drop, List.length_cons, List.length_nil]; omega) (by simp only [List.length_append, List.length_take, List.length_drop, List.length_cons, List.length_nil]; omega)
        exact opStep.val (r_append rfl h53 h56 hr) ⟨_, ⟨fun h => Bool.noConfusion h, A', c', _, rfl, rfl⟩, H'⟩
      | n + 18, hn => exact absurd hn (by omega)
    · intro τ' w9 Lp hQ hfr HS'
      rw [fm_pick (pr := fun i => Nat.beq i 6 || Nat.beq i 10 || Nat.beq i 12 || Nat.beq i 13 || Nat.beq i 17) (l := [17]) (fun j hj => (hQ j hj).1) (by kernel_rfl)] at HS'
      have HS := HS'
      obtain ⟨A6, c6, B6, h57, hL1⟩ : ∃ A' c' B, τ' 57 = .slice A' (([] : List S57) ++ sl.take i ++ [x] ++ sl.drop i).length c' ∧ Lp 17 = [Rw o57 57 (.slice A' (([] : List S57) ++ sl.take i ++ [x] ++ sl.drop i).length c') (([] : List S57) ++ sl.take i ++ [x] ++ sl.drop i), B] := (hQ 17 (by decide)).2
      have h44 : τ' 44 = .slice (some ⟨gl1, 0, none⟩) lev.length c1 := (hQ 4 (by decide)).2
      have h45 : τ' 45 = .int .i64 s := (hQ 5 (by decide)).2
      rw [List.flatMap_cons, hL1] at HS
      have HB : St w S (Rw o57 57 (.slice A6 (([] : List S57) ++ sl.take i ++ [x] ++ sl.drop i).length c6) (([] : List S57) ++ sl.take i ++ [x] ++ sl.drop i) :: [RwH o55 55 (.slice (some ⟨gl1, 0, none⟩) lev.length c1) lev s [.slice A2 sl.length c2], RwH o54 54 (.slice (some ⟨gl, 0, none⟩) lv.length co) lv l [.slice (some ⟨gl1, 0, none⟩) lev.length c1]]) w9 := HS.sel (.c q5 (.c q1 (.c q3 .n)))
      rw [hcut] at HB h57
      have HC := HB.elR p0
      clear HS HS' hQ hfr hL1 HB
      refine WO.v 58 rfl rfl (r_indexAddr rfl h44 h45 Try.underlying54 Try.sizeOf55 (by omega) (by omega) (q := 0 + s) (by rw [Int.toNat_natCast, Nat.mul_one])) ?_
      refine WO.sfill (j := s) rfl rfl rfl rfl h57 rfl Try.sizeOf55 rfl HC p0 (by show 0 + s = s * 1; omega) ?_
      intro wS HS
      have hls : (lev.set s (insO x sl)).length = lev.length := List.length_set
      have HD : St w S (Rw o55 55 (.slice (some ⟨gl1, 0, none⟩) (lev.set s (insO x sl)).length c1) (lev.set s (insO x sl)) :: [RwH o54 54 (.slice (some ⟨gl, 0, none⟩) lv.length co) lv l [.slice (some ⟨gl1, 0, none⟩) (lev.set s (insO x sl)).length c1]]) wS := by rw [hls]; exact HS
      have HE := HD.backR p0
      have hll : (lv.set l (lev.set s (insO x sl))).length = lv.length := List.length_set
      rw [← hll] at HE
      exact WO.done (Run.end0 Try.func66 Try.results66 ⟨_, ⟨rfl, rfl⟩, HE⟩)
  refine Run.seq (Run.seq ?_)
  refine Run.quiet _ (by kernel_rfl) (by kernel_rfl) (H.step ⟨rfl, rfl, rfl, Nat.le_refl _, fun _ _ => rfl⟩) _ rfl ?_
  refine WQ.v 24 rfl (fun W hW => r_moveI rfl h7) ?_
  refine WQ.v 25 rfl (fun W hW => r_moveL rfl h6) ?_
  refine WQ.v 26 rfl (fun W hW => r_len (e := 57) rfl rfl Try.underlying55) ?_
  by_cases hi : i < sl.length
  · obtain ⟨gs, rfl, _⟩ := H.lies p0 (by omega)
    refine WQ.v 27 rfl (fun W hW => r_lss rfl rfl rfl (decide_eq_true (show (i : Int) < (sl.length : Int) by omega))) ?_
    refine WQ.v 28 rfl (fun W hW => r_moveB rfl rfl) ?_
    refine WQ.v 29 rfl (fun W hW => r_moveL rfl h6) ?_
    refine WQ.v 30 rfl (fun W hW => r_moveI rfl h7) ?_
    refine WQ.v 31 rfl (fun W hW => r_indexAddr rfl rfl rfl Try.underlying55 Try.sizeOf57 (by omega) (by omega) (q := 0 + i * 3) (by rw [Int.toNat_natCast])) ?_
    refine WQ.v 32 rfl (fun W hW => r_fieldAddr rfl rfl Try.underlying57 rfl Try.sizeOf3 (q := 0 + i * 3 + 2) rfl) ?_
    refine WQ.v 33 rfl (fun W hW => r_load (v := .int .i64 (sl.getD i z57).f2) rfl rfl Try.isAgg3 (row_cells (hW.rdC p0) i hi 2 _ rfl)) ?_
    refine WQ.v 34 rfl (fun W hW => r_fieldAddr rfl h3 Try.underlying57 rfl Try.sizeOf3 (q := 0 + 2) rfl) ?_
    refine WQ.v 35 rfl (fun W hW => r_load rfl rfl Try.isAgg3 (hW.cell p2 rfl)) ?_
    by_cases hf : (sl.getD i z57).f2 < x.f2
    · refine WQ.v 36 rfl (fun W hW => r_lss rfl rfl rfl (decide_eq_true hf)) ?_
      refine WQ.v 37 rfl (fun W hW => r_pickB rfl rfl rfl) ?_
      refine WQ.done (fun w9 H9 => ?_)
      refine Run.condT rfl (Run.skip (Run.block (Run.regionL [0, 1, 2] rfl ?_)))
      refine WO.v 38 rfl rfl (r_moveI rfl h7) ?_
      refine WO.v 39 rfl rfl (r_add rfl rfl rfl (c := (i : Int) + 1) (wrap_in (by omega) (by omega))) ?_
      refine WO.v 7 rfl rfl (r_assignI rfl rfl) ?_
      refine WO.done (Run.blockEnd (ih (m - 1) _ _ (by omega) ⟨i + 1, by omega, h2, h3, h4, h5, h6, rfl, fun y hy => ?_, H9⟩))
      rw [take_snoc sl i hi] at hy
      rcases List.mem_append.1 hy with hy | hy
      · exact hlt y hy
      · rw [List.mem_singleton.1 hy]; exact hf
    · refine WQ.v 36 rfl (fun W hW => r_lss rfl rfl rfl (decide_eq_false hf)) ?_
      refine WQ.v 37 rfl (fun W hW => r_pickB rfl rfl rfl) ?_
      refine WQ.done (fun w9 H9 => ?_)
      exact Run.condF rfl (Run.exit rfl (stop (fun _ => hf) _ w9 h2 h3 h4 h5 h6 h7 H9))
  · refine WQ.v 27 rfl (fun W hW => r_lss rfl rfl rfl (decide_eq_false (show ¬ (i : Int) < (sl.length : Int) by omega))) ?_
    refine WQ.v 28 rfl (fun W hW => r_moveB rfl rfl) ?_
    refine WQ.x 29 rfl ?_
    refine WQ.x 30 rfl ?_
    refine WQ.x 31 rfl ?_
    refine WQ.x 32 rfl ?_
    refine WQ.x 33 rfl ?_
    refine WQ.x 34 rfl ?_
    refine WQ.x 35 rfl ?_
    refine WQ.x 36 rfl ?_
    refine WQ.v 37 rfl (fun W hW => r_pickB rfl rfl rfl) ?_
    refine WQ.done (fun w9 H9 => ?_)
    exact Run.condF rfl (Run.exit rfl (stop (fun h => absurd h hi) _ w9 h2 h3 h4 h5 h6 h7 H9))
end Go.Proofs.Ytojpimpfpjhflaa.Wh
namespace Go.Proofs.Ytojpimpfpjhflaa.Wh
open Go.RowKit Go.Proofs.Ytojpimpfpjhflaa.Fw Go.Proofs.YtojpimpfpjhflaaW.PrintWords Go.Proofs.Ytojpimpfpjhflaa.PFnExactWheelOK
set_option linter.unusedVariables false
set_option linter.unusedSimpArgs false
theorem Good.pos {now order : Int} {lv : List (List (List S57))} (hG : Good now order lv) : ∀ x ∈ lv.flatten.flatten, 0 < x.f2 ∧ x.f2 ≤ order := by
  intro x hx
  obtain ⟨l, hl, hx⟩ := List.mem_flatten.1 hx
  obtain ⟨lvl, hlvl, hl⟩ := List.mem_flatten.1 hl
  obtain ⟨a, ha, rfl⟩ := List.getElem_of_mem hlvl
  obtain ⟨b, hb, rfl⟩ := List.getElem_of_mem hl
  have h := hG.level a (by have := hG.three; omega)
  have e1 : lv.getD a [] = lv[a] := by simp [List.getD_eq_getElem?_getD, List.getElem?_eq_getElem ha]
  rw [e1] at h
  have h' := h.2 b (by have := h.1; omega)
  have e2 : (lv[a]).getD b [] = (lv[a])[b] := by simp [List.getD_eq_getElem?_getD, List.getElem?_eq_getElem hb]
  rw [e2] at h'
  exact ⟨(slotB_sorted now order _ _ 0 _ h').1 x hx, (slotB_orders now order _ _ 0 _ (Int.le_refl _) h' x hx).2⟩
theorem insO_end (x : S57) (sl : List S57) (h : ∀ y ∈ sl, y.f2 < x.f2) : insO x sl = sl ++ [x] := by
  have := insO_cut x sl sl.length (Nat.le_refl _) (fun y hy => h y (List.mem_of_mem_take hy)) (fun h => absurd h (Nat.lt_irrefl _))
  rw [← this, List.take_length, List.drop_length, List.append_nil, List.nil_append]
theorem putO_end {now : Int} {x : S57} {lv : List (List (List S57))} (h : ∀ y ∈ lv.flatten.flatten, y.f2 < x.f2) : putO now x lv = putE now x lv := by
  unfold putO putE
  rw [insO_end x _ fun y hy => h y (mem_slot hy)]
theorem twin_has (id : Int) (ts : List S57) (h : ∀ x ∈ ts, 0 < x.f2) : twinB ts ⟨id, 0, 0⟩ = hasId id ts := by
  unfold twinB hasId
  rw [Bool.eq_iff_iff, List.any_eq_true, List.any_eq_true]
  constructor
  · rintro ⟨x, hx, e⟩
    refine ⟨x, hx, ?_⟩
    rw [Bool.or_eq_true, decide_eq_true_iff, decide_eq_true_iff] at e
    rcases e with e | e
    · exact decide_eq_true e
    · have := h x hx; simp at e; omega
  · rintro ⟨x, hx, e⟩
    exact ⟨x, hx, by rw [Bool.or_eq_true]; exact .inl e⟩
theorem build57i (a : Int) (w : World) : (Instr.build 57 #[(0, .int .i64 a)]).run Try.prog w = .ok (.agg #[.int .i64 a, .int .i64 0, .int .i64 0]) w := by kernel_rfl
theorem in_calls (a b c : Int) (w : World) : Calls Try.prog 34 #[.int .i64 a, .int .i64 b, .int .i64 c] w fun e w' => e = .returned (.bool (decide (b ≤ a ∧ a ≤ c))) ∧ Below w.heap.size w w' :=
  (spec_l01In.calls a b c _ w (in_f a b c)).mono fun e w' h => ⟨h.1, h.2.below⟩
theorem twin_calls (A : Option Addr) (c : Nat) (ts : List S57) (x : S57) (w : World) (hr : Kd.C k57 w A ts.length ts) (hc : ts.length ≤ c) (hs : ts.length ≤ 1048576) : Calls Try.prog 36 #[.slice A ts.length c, .agg #[.int .i64 x.f0, .int .i64 x.f1, .int .i64 x.f2]] w fun e w' => e = .returned (.bool (twinB ts x)) ∧ Below w.heap.size w w' := by
  obtain ⟨k, hk⟩ := (twin_f ts x hs).ex
  exact spec_l11Twin.calls k A c ts _ _ _ _ w hr hc hk
theorem putE_shape {now order : Int} {lv : List (List (List S57))} (hG : Good now order lv) (x : S57) (h0 : 0 ≤ x.f1) : (putE now x lv).length = 3 ∧ (∀ l, l < 3 → ((putE now x lv).getD l []).length = 8) ∧ ∀ l s, (((putE now x lv).getD l []).getD s []).length ≤ 1048576 := by
  obtain ⟨l, s, hl, hs, hpl⟩ := place_lt (at_ := x.f1) (now := now) h0
  have h3 := hG.three
  refine ⟨?_, ?_, ?_⟩
  · rw [putE_at hpl, List.length_set]; exact h3
  · intro l' hl'
    rw [putE_at hpl, getD_setL _ _ _ _ (by omega)]
    split
    · rw [List.length_set]; exact hG.len hl
    · exact hG.len hl'
  · intro l' s'
    have := (sub_slot (lv := putE now x lv) l' s').length_le
    have := putE_len hG x
    omega
theorem small_of {lv : List (List (List S57))} (h3 : lv.length = 3) (h8 : ∀ l, l < 3 → (lv.getD l []).length = 8) (hs : ∀ l s, ((lv.getD l []).getD s []).length ≤ 1048576) : lv.length ≤ 1048576 ∧ ∀ l, l < lv.length → (lv.getD l []).length ≤ 1048576 ∧ ∀ s, s < (lv.getD l []).length → ((lv.getD l []).getD s []).length ≤ 1048576 :=
  ⟨by omega, fun l hl => ⟨by rw [h8 l (by omega)]; omega, fun s _ => hs l s⟩⟩
def L11Q (now order : Int) (A : Option Addr) (c : Nat) (lv : List (List (List S57))) (id ah : Int) (e : Ending) (LQ : List Asn) : Prop :=
  ∃ A' c', e = .returned (.tuple #[.agg #[.int .i64 now, .int .i64 (addO order id ah lv.flatten.flatten), .slice A' (addL now order id ah lv).length c'], .int .i64 (addC order id ah lv.flatten.flatten)]) ∧
    ((addL now order id ah lv = lv ∧ A' = A ∧ c' = c ∧ LQ = []) ∨ LQ = [Rw o54 54 (.slice A' (addL now order id ah lv).length c') (addL now order id ah lv)])
theorem addL_no {now order id ah : Int} {lv : List (List (List S57))} (h : addC order id ah lv.flatten.flatten ≠ 0) : addL now order id ah lv = lv := if_neg h
theorem addL_yes {now order id ah : Int} {lv : List (List (List S57))} (h : addC order id ah lv.flatten.flatten = 0) : addL now order id ah lv = putE now ⟨id, now + ah, order + 1⟩ lv := if_pos h
set_option maxHeartbeats 1000000 in
theorem l11Add_tri (now order : Int) (A : Option Addr) (c : Nat) (lv : List (List (List S57))) (id ah : Int) (w : World) (hr : Kd.C (Kd.slice 55 (Kd.slice 57 k57)) w A lv.length lv) (hG : Good now order lv) :
    Tri Try.prog 49 #[.agg #[.int .i64 now, .int .i64 order, .slice A lv.length c], .int .i64 id, .int .i64 ah] w [] (L11Q now order A c lv id ah) := by
  have hn0 := hG.n0
  have hn1 := hG.n1
  have ho0 := hG.o0
  have ho1 := hG.o1
  have hfew := hG.few
  have hpos := hG.pos
  refine tri_of_run0 (fn := Try.f49) (n := 50) Try.func49 rfl Try.ntmps49 (Nat.le_of_ble_eq_true rfl) fun H => ?_
  refine Run.seq (Run.regionL [0, 1, 2] rfl ?_)
  refine WO.sbox 3 (cs := [.int .i64 now, .int .i64 order, .slice A lv.length c]) rfl rfl rfl rfl H ?_
  intro g3 w1 H1
  refine WO.salloc 6 (cs := [.int .i64 0, .int .i64 0, .slice none 0 0]) rfl rfl rfl Try.zeroValue29 rfl H1 ?_
  intro g6 w2 H2
  refine WO.v 7 rfl rfl (r_assignI rfl rfl) ?_
  refine WO.done (Run.seq (Run.regionL [0, 1, 2] rfl ?_))
  refine WO.v 10 rfl rfl (r_loadK (vs := [.int .i64 now, .int .i64 order, .slice A lv.length c]) rfl rfl Try.isAgg29 Try.sizeOf29 rfl (H2.cells p1)) ?_
  refine WO.scall 11 rfl rfl Try.call40 H2 .n (timers_tri now order A c lv w2 (Kd.C_below hr H2.below) (by omega)) rfl rfl ?_
  rintro e LQ w3 ⟨AT, cT, rfl, rfl⟩ H3
  refine ⟨_, rfl, ?_⟩
  refine WO.v 8 rfl rfl (r_assignL rfl rfl) ?_
  refine WO.done (Run.seq (Run.block (Run.seq (Run.regionL [0, 1, 2, 3] rfl ?_))))
  refine WO.v 13 rfl rfl (r_moveI rfl rfl) ?_
  refine WO.call_ 14 rfl rfl Try.call34 (in_calls ah 1 500 w3) rfl rfl ?_
  rintro e w4 ⟨rfl, hb4⟩
  refine ⟨_, rfl, ?_⟩
  have H4 := H3.step hb4
  have hno : ∀ (cd : Int) (w9 : World), cd ≠ 0 → addC order id ah lv.flatten.flatten = cd → St w Em [RT AT cT lv.flatten.flatten, Bk g6 [.int .i64 0, .int .i64 0, .slice none 0 0] 29, Bk g3 [.int .i64 now, .int .i64 order, .slice A lv.length c] 29] w9 → ∀ τ : Tm, τ 3 = .pointer (some ⟨g3, 0, none⟩) → τ 6 = .pointer (some ⟨g6, 0, none⟩) → True := fun _ _ _ _ _ _ _ _ => trivial
  by_cases h1 : 1 ≤ ah ∧ ah ≤ 500
  · rw [decide_eq_true h1]
    refine WO.v 15 rfl rfl (r_not rfl rfl rfl) ?_
    refine WO.v 12 rfl rfl (r_assignB rfl rfl) ?_
    refine WO.done (Run.condF rfl (Run.seq (Run.regionL [0, 1, 2, 3, 4] rfl ?_)))
    refine WO.v 18 rfl rfl (r_moveL rfl rfl) ?_
    refine WO.v 19 rfl rfl (r_moveI rfl rfl) ?_
    refine WO.v 20 rfl rfl (r_build rfl (build57i id _) rfl) ?_
    refine WO.call_ 21 rfl rfl Try.call36 (twin_calls AT cT lv.flatten.flatten ⟨id, 0, 0⟩ w4 (H4.rdC p0) (H4.rd p0).2.1 (by omega)) rfl rfl ?_
    rintro e w5 ⟨rfl, hb5⟩
    refine ⟨_, rfl, ?_⟩
    have H5 := H4.step hb5
    rw [twin_has id _ fun x hx => (hpos x hx).1]
    refine WO.v 17 rfl rfl (r_assignB rfl rfl) ?_
    cases hh : hasId id lv.flatten.flatten with
    | true =>
      have hc : addC order id ah lv.flatten.flatten = 9 := by unfold addC; rw [if_pos h1, if_pos hh]
      have e1 := addL_no (now := now) (order := order) (id := id) (ah := ah) (lv := lv) (by rw [hc]; decide)
      have e2 := (addT_no (now := now) (order := order) (id := id) (ah := ah) (ts := lv.flatten.flatten) (by rw [hc]; decide)).2
      refine WO.done (Run.condT rfl (Run.seq (Run.regionL [0, 1, 2] rfl ?_)))
      refine WO.v 22 rfl rfl (r_loadK (vs := [.int .i64 now, .int .i64 order, .slice A lv.length c]) rfl rfl Try.isAgg29 Try.sizeOf29 rfl (H5.cells p2)) ?_
      refine WO.sstoreK (vs := [.int .i64 now, .int .i64 order, .slice A lv.length c]) rfl rfl rfl rfl rfl rfl rfl Try.sizeOf29 rfl H5 p1 rfl ?_
      intro wS HS
      refine WO.v 7 rfl rfl (r_assignI rfl rfl) ?_
      exact WO.done (Run.ret2 (v2 := .int .i64 9) Try.func49 Try.results49 ⟨_, rfl, run_loadVarK Try.isAgg29 Try.sizeOf29 rfl (HS.cells p1)⟩ rfl ⟨[], ⟨A, c, by rw [hc, e1, e2], .inl ⟨e1, rfl, rfl, rfl⟩⟩, HS.sel .n⟩)
    | false =>
      refine WO.done (Run.condF rfl (Run.seq (Run.regionL [0, 1, 2, 3, 4, 5, 6, 7, 8] rfl ?_)))
      refine WO.v 24 rfl rfl (r_moveL rfl rfl) ?_
      refine WO.v 25 rfl rfl (r_len (e := 57) rfl rfl Try.underlying55) ?_
      by_cases h60 : (lv.flatten.flatten.length : Int) = 60
      · refine WO.v 26 rfl rfl (r_eql rfl rfl rfl (decide_eq_true h60)) ?_
        refine WO.v 27 rfl rfl (r_moveB rfl rfl) ?_
        refine WO.x 28 rfl rfl ?_
        refine WO.x 29 rfl rfl ?_
        refine WO.x 30 rfl rfl ?_
        refine WO.v 31 rfl rfl (r_pickB rfl rfl rfl) ?_
        refine WO.v 23 rfl rfl (r_assignB rfl rfl) ?_
        have hc : addC order id ah lv.flatten.flatten = 7 := by unfold addC; rw [if_pos h1, if_neg (by rw [hh]; simp), if_pos (.inl (by omega))]
        have e1 := addL_no (now := now) (order := order) (id := id) (ah := ah) (lv := lv) (by rw [hc]; decide)
        have e2 := (addT_no (now := now) (order := order) (id := id) (ah := ah) (ts := lv.flatten.flatten) (by rw [hc]; decide)).2
        refine WO.done (Run.condT rfl (Run.seq (Run.regionL [0, 1, 2] rfl ?_)))
        refine WO.v 32 rfl rfl (r_loadK (vs := [.int .i64 now, .int .i64 order, .slice A lv.length c]) rfl rfl Try.isAgg29 Try.sizeOf29 rfl (H5.cells p2)) ?_
        refine WO.sstoreK (vs := [.int .i64 now, .int .i64 order, .slice A lv.length c]) rfl rfl rfl rfl rfl rfl rfl Try.sizeOf29 rfl H5 p1 rfl ?_
        intro wS HS
        refine WO.v 7 rfl rfl (r_assignI rfl rfl) ?_
        exact WO.done (Run.ret2 (v2 := .int .i64 7) Try.func49 Try.results49 ⟨_, rfl, run_loadVarK Try.isAgg29 Try.sizeOf29 rfl (HS.cells p1)⟩ rfl ⟨[], ⟨A, c, by rw [hc, e1, e2], .inl ⟨e1, rfl, rfl, rfl⟩⟩, HS.sel .n⟩)
      · refine WO.v 26 rfl rfl (r_eql rfl rfl rfl (decide_eq_false h60)) ?_
        refine WO.v 27 rfl rfl (r_moveB rfl rfl) ?_
        refine WO.v 28 rfl rfl (r_fieldAddr rfl rfl Try.underlying29 rfl Try.sizeOf3 (q := 0 + 1) rfl) ?_
        refine WO.v 29 rfl rfl (r_load rfl rfl Try.isAgg3 (H5.cell p2 rfl)) ?_
        by_cases ho : order = 1000000
        · refine WO.v 30 rfl rfl (r_eql rfl rfl rfl (decide_eq_true ho)) ?_
          refine WO.v 31 rfl rfl (r_pickB rfl rfl rfl) ?_
          refine WO.v 23 rfl rfl (r_assignB rfl rfl) ?_
          have hc : addC order id ah lv.flatten.flatten = 7 := by unfold addC; rw [if_pos h1, if_neg (by rw [hh]; simp), if_pos (.inr ho)]
          have e1 := addL_no (now := now) (order := order) (id := id) (ah := ah) (lv := lv) (by rw [hc]; decide)
          have e2 := (addT_no (now := now) (order := order) (id := id) (ah := ah) (ts := lv.flatten.flatten) (by rw [hc]; decide)).2
          refine WO.done (Run.condT rfl (Run.seq (Run.regionL [0, 1, 2] rfl ?_)))
          refine WO.v 32 rfl rfl (r_loadK (vs := [.int .i64 now, .int .i64 order, .slice A lv.length c]) rfl rfl Try.isAgg29 Try.sizeOf29 rfl (H5.cells p2)) ?_
          refine WO.sstoreK (vs := [.int .i64 now, .int .i64 order, .slice A lv.length c]) rfl rfl rfl rfl rfl rfl rfl Try.sizeOf29 rfl H5 p1 rfl ?_
          intro wS HS
          refine WO.v 7 rfl rfl (r_assignI rfl rfl) ?_
          exact WO.done (Run.ret2 (v2 := .int .i64 7) Try.func49 Try.results49 ⟨_, rfl, run_loadVarK Try.isAgg29 Try.sizeOf29 rfl (HS.cells p1)⟩ rfl ⟨[], ⟨A, c, by rw [hc, e1, e2], .inl ⟨e1, rfl, rfl, rfl⟩⟩, HS.sel .n⟩)
        · refine WO.v 30 rfl rfl (r_eql rfl rfl rfl (decide_eq_false ho)) ?_
          refine WO.v 31 rfl rfl (r_pickB rfl rfl rfl) ?_
          refine WO.v 23 rfl rfl (r_assignB rfl rfl) ?_
          have hc : addC order id ah lv.flatten.flatten = 0 := by unfold addC; rw [if_pos h1, if_neg (by rw [hh]; simp), if_neg (by omega)]
          have e1 := addL_yes (now := now) (order := order) (id := id) (ah := ah) (lv := lv) hc
          have e2 := (addT_yes (now := now) (order := order) (id := id) (ah := ah) (ts := lv.flatten.flatten) hc).2
          have e3 : putO now (⟨id, now + ah, order + 1⟩ : S57) lv = putE now (⟨id, now + ah, order + 1⟩ : S57) lv := putO_end fun y hy => by have := hpos y hy; show y.f2 < order + 1; omega
          obtain ⟨hsm1, hsm2⟩ := hG.small
          refine WO.done (Run.condF rfl (Run.skip (Run.blockEnd (Run.seq (Run.regionL [0, 1, 2, 3] rfl ?_)))))
          refine WO.v 33 rfl rfl (r_loadK (vs := [.int .i64 now, .int .i64 order, .slice A lv.length c]) rfl rfl Try.isAgg29 Try.sizeOf29 rfl (H5.cells p2)) ?_
          refine WO.scall 34 rfl rfl Try.call52 H5 .n (own_tri now order A c lv w5 (Kd.C_below hr H5.below) hsm1 hsm2) rfl rfl ?_
          rintro e LQ w6 ⟨A5, c5, rfl, rfl⟩ H6
          refine ⟨_, rfl, ?_⟩
          refine WO.salloc 9 (cs := [.int .i64 0, .int .i64 0, .slice none 0 0]) rfl rfl rfl Try.zeroValue29 rfl H6 ?_
          intro g9 w7 H7
          refine WO.sstoreK (vs := [.int .i64 now, .int .i64 order, .slice A5 lv.length c5]) rfl rfl rfl rfl rfl rfl rfl Try.sizeOf29 rfl H7 p0 rfl ?_
          intro w8 H8
          refine WO.done (Run.seq (Run.regionL [0, 1, 2, 3, 4] rfl ?_))
          refine WO.v 35 rfl rfl (r_fieldAddr rfl rfl Try.underlying29 rfl Try.sizeOf3 (q := 0 + 1) rfl) ?_
          refine WO.v 36 rfl rfl (r_load rfl rfl Try.isAgg3 (H8.cell p0 rfl)) ?_
          refine WO.v 37 rfl rfl (r_add rfl rfl rfl (c := order + 1) (wrap_in (by omega) (by omega))) ?_
          refine WO.v 38 rfl rfl (r_fieldAddr rfl rfl Try.underlying29 rfl Try.sizeOf3 (q := 0 + 1) rfl) ?_
          refine WO.sstore rfl rfl rfl rfl rfl rfl Try.sizeOf3 H8 p0 (.s .z) ?_
          intro w9 H9
          refine WO.done (Run.seq (Run.regionL [0, 1, 2, 3, 4, 5, 6, 7, 8, 9] rfl ?_))
          refine WO.v 39 rfl rfl (r_loadK (vs := [.int .i64 now, .int .i64 (order + 1), .slice A5 lv.length c5]) rfl rfl Try.isAgg29 Try.sizeOf29 rfl (H9.cells p0)) ?_
          refine WO.v 40 rfl rfl (r_moveI rfl rfl) ?_
          refine WO.v 41 rfl rfl (r_fieldAddr rfl rfl Try.underlying29 rfl Try.sizeOf3 (q := 0 + 0) rfl) ?_
          refine WO.v 42 rfl rfl (r_load rfl rfl Try.isAgg3 (H9.cell p4 rfl)) ?_
          refine WO.v 43 rfl rfl (r_moveI rfl rfl) ?_
          refine WO.v 44 rfl rfl (r_add rfl rfl rfl (c := now + ah) (wrap_in (by omega) (by omega))) ?_
          refine WO.v 45 rfl rfl (r_fieldAddr rfl rfl Try.underlying29 rfl Try.sizeOf3 (q := 0 + 1) rfl) ?_
          refine WO.v 46 rfl rfl (r_load rfl rfl Try.isAgg3 (H9.cell p0 rfl)) ?_
          refine WO.v 47 rfl rfl (r_build rfl (build57 id (now + ah) (order + 1) _) rfl) ?_
          refine WO.scall 48 rfl rfl Try.call66 H9 (.c q1 .n) (put_tri now (order + 1) A5 c5 lv (⟨id, now + ah, order + 1⟩ : S57) w9 hG.three (fun l hl => hG.len hl) (fun l s => by have := (sub_slot (lv := lv) l s).length_le; omega) hn0 hn1 (by show 0 ≤ now + ah; omega) (by show now + ah ≤ 1000500; omega)) rfl rfl ?_
          rintro e LQ w10 ⟨rfl, rfl⟩ H10
          refine ⟨_, rfl, ?_⟩
          rw [e3] at H10
          have hl : (putE now (⟨id, now + ah, order + 1⟩ : S57) lv).length = lv.length := (putE_shape hG (⟨id, now + ah, order + 1⟩ : S57) (by show 0 ≤ now + ah; omega)).1.trans hG.three.symm
          refine WO.done (Run.seq (Run.regionL [0, 1, 2] rfl ?_))
          refine WO.v 49 rfl rfl (r_loadK (vs := [.int .i64 now, .int .i64 (order + 1), .slice A5 lv.length c5]) rfl rfl Try.isAgg29 Try.sizeOf29 rfl (H10.cells p1)) ?_
          refine WO.sstoreK (vs := [.int .i64 now, .int .i64 (order + 1), .slice A5 lv.length c5]) rfl rfl rfl rfl rfl rfl rfl Try.sizeOf29 rfl H10 p3 rfl ?_
          intro wS HS
          refine WO.v 7 rfl rfl (r_assignI rfl rfl) ?_
          exact WO.done (Run.ret2 (v2 := .int .i64 0) Try.func49 Try.results49 ⟨_, rfl, run_loadVarK Try.isAgg29 Try.sizeOf29 rfl (HS.cells p3)⟩ rfl ⟨_, ⟨A5, c5, by rw [hc, e1, e2, hl], .inr (by rw [e1])⟩, HS.sel (.c q0 .n)⟩)
  · rw [decide_eq_false h1]
    refine WO.v 15 rfl rfl (r_not rfl rfl rfl) ?_
    refine WO.v 12 rfl rfl (r_assignB rfl rfl) ?_
    have hc : addC order id ah lv.flatten.flatten = 4 := by unfold addC; rw [if_neg h1]
    have e1 := addL_no (now := now) (order := order) (id := id) (ah := ah) (lv := lv) (by rw [hc]; decide)
    have e2 := (addT_no (now := now) (order := order) (id := id) (ah := ah) (ts := lv.flatten.flatten) (by rw [hc]; decide)).2
    refine WO.done (Run.condT rfl (Run.seq (Run.regionL [0, 1, 2] rfl ?_)))
    refine WO.v 16 rfl rfl (r_loadK (vs := [.int .i64 now, .int .i64 order, .slice A lv.length c]) rfl rfl Try.isAgg29 Try.sizeOf29 rfl (H4.cells p2)) ?_
    refine WO.sstoreK (vs := [.int .i64 now, .int .i64 order, .slice A lv.length c]) rfl rfl rfl rfl rfl rfl rfl Try.sizeOf29 rfl H4 p1 rfl ?_
    intro wS HS
    refine WO.v 7 rfl rfl (r_assignI rfl rfl) ?_
    exact WO.done (Run.ret2 (v2 := .int .i64 4) Try.func49 Try.results49 ⟨_, rfl, run_loadVarK Try.isAgg29 Try.sizeOf29 rfl (HS.cells p1)⟩ rfl ⟨[], ⟨A, c, by rw [hc, e1, e2], .inl ⟨e1, rfl, rfl, rfl⟩⟩, HS.sel .n⟩)
theorem addL_small {now order : Int} {lv : List (List (List S57))} (hG : Good now order lv) (id ah : Int) : (addL now order id ah lv).length ≤ 1048576 ∧ ∀ l, l < (addL now order id ah lv).length → ((addL now order id ah lv).getD l []).length ≤ 1048576 ∧ ∀ s, s < ((addL now order id ah lv).getD l []).length → (((addL now order id ah lv).getD l []).getD s []).length ≤ 1048576 := by
  have hn0 := hG.n0
  rcases addC_cases order id ah lv.flatten.flatten with ⟨h0, h⟩ | ⟨h0, _, h⟩ | ⟨h0, _, _, h⟩ | ⟨h0, _, _, h⟩
  · rw [addL_no (by rw [h]; decide)]; exact hG.small
  · rw [addL_no (by rw [h]; decide)]; exact hG.small
  · rw [addL_no (by rw [h]; decide)]; exact hG.small
  · rw [addL_yes h]
    obtain ⟨a, b, c⟩ := putE_shape hG (⟨id, now + ah, order + 1⟩ : S57) (by show 0 ≤ now + ah; omega)
    exact small_of a b c
set_option maxHeartbeats 1000000 in
theorem specAdd_tri (now order : Int) (A : Option Addr) (c : Nat) (lv : List (List (List S57))) (id ah : Int) (w : World) (hr : Kd.C (Kd.slice 55 (Kd.slice 57 k57)) w A lv.length lv) (hc : lv.length ≤ c) (hbig : lv.flatten.flatten.length ≤ 1048576) :
    Tri Try.prog 27 #[.agg #[.int .i64 now, .int .i64 order, .slice A lv.length c], .int .i64 id, .int .i64 ah] w [] (AddQ now order lv id ah) := by
  refine tri_of_run0 (fn := Try.f27) (n := 24) Try.func27 rfl Try.ntmps27 (Nat.le_of_ble_eq_true rfl) fun H => ?_
  refine Run.seq (Run.regionL [0, 1, 2] rfl ?_)
  refine WO.sbox 3 (cs := [.int .i64 now, .int .i64 order, .slice A lv.length c]) rfl rfl rfl rfl H ?_
  intro g2 w1 H1
  refine WO.salloc 6 (cs := [.int .i64 0, .int .i64 0, .slice none 0 0]) rfl rfl rfl Try.zeroValue29 rfl H1 ?_
  intro g4 w2 H2
  refine WO.v 7 rfl rfl (r_assignI rfl rfl) ?_
  refine WO.done (Run.seq (Run.seq (Run.regionL [0, 1, 2] rfl ?_)))
  refine WO.v 10 rfl rfl (r_loadK (vs := [.int .i64 now, .int .i64 order, .slice A lv.length c]) rfl rfl Try.isAgg29 Try.sizeOf29 rfl (H2.cells p1)) ?_
  refine WO.call_ 11 rfl rfl Try.call11 (specOK_calls now order A c lv w2 (Kd.C_below hr H2.below) hc hbig) rfl rfl ?_
  rintro e w3 ⟨⟨b, rfl, hb1, hb0⟩, hb3⟩
  refine ⟨_, rfl, ?_⟩
  have H3 := H2.step hb3
  cases b with
  | false =>
    refine WO.v 12 rfl rfl (r_not rfl rfl rfl) ?_
    refine WO.done (Run.condT rfl (Run.seq (Run.regionL [0, 1, 2] rfl ?_)))
    refine WO.v 13 rfl rfl (r_build rfl (build29z _) rfl) ?_
    refine WO.sstoreK (vs := [.int .i64 0, .int .i64 0, .slice none 0 0]) rfl rfl rfl rfl rfl rfl rfl Try.sizeOf29 rfl H3 p0 rfl ?_
    intro wS HS
    refine WO.v 7 rfl rfl (r_assignI rfl rfl) ?_
    exact WO.done (Run.ret2 (v2 := .int .i64 1) Try.func27 Try.results27 ⟨_, rfl, run_loadVarK Try.isAgg29 Try.sizeOf29 rfl (HS.cells p0)⟩ rfl ⟨_, ⟨0, 0, [], 1, none, 0, rfl, rfl, .inl ⟨hb0 rfl, rfl, rfl, rfl, rfl⟩⟩, (HS.row_nil o54 54).sel (.c q0 .n)⟩)
  | true =>
    have hG := hb1 rfl
    obtain ⟨hsm1, hsm2⟩ := addL_small hG id ah
    refine WO.v 12 rfl rfl (r_not rfl rfl rfl) ?_
    refine WO.done (Run.condF rfl (Run.skip (Run.seq (Run.regionL [0, 1, 2, 3, 4, 5, 6, 7, 8, 9] rfl ?_))))
    refine WO.v 15 rfl rfl (r_loadK (vs := [.int .i64 now, .int .i64 order, .slice A lv.length c]) rfl rfl Try.isAgg29 Try.sizeOf29 rfl (H3.cells p1)) ?_
    refine WO.v 16 rfl rfl (r_moveI rfl rfl) ?_
    refine WO.v 17 rfl rfl (r_moveI rfl rfl) ?_
    refine WO.scall 18 rfl rfl Try.call49 H3 .n (l11Add_tri now order A c lv id ah w3 (Kd.C_below hr H3.below) hG) rfl rfl ?_
    rintro e LQ w4 ⟨A4, c4, rfl, hL⟩ H4'
    refine ⟨_, rfl, ?_⟩
    refine WO.v 14 rfl rfl (r_moveT rfl rfl) ?_
    refine WO.v 19 rfl rfl (r_extract rfl rfl rfl) ?_
    refine WO.v 20 rfl rfl (r_extract rfl rfl rfl) ?_
    rcases hL with ⟨e1, rfl, rfl, rfl⟩ | rfl
    · have H4 := H4'
      refine WO.salloc 8 (cs := [.int .i64 0, .int .i64 0, .slice none 0 0]) rfl rfl rfl Try.zeroValue29 rfl H4 ?_
      intro g8 w5 H5
      refine WO.sstoreK (vs := [.int .i64 now, .int .i64 (addO order id ah lv.flatten.flatten), .slice A4 (addL now order id ah lv).length c4]) rfl rfl rfl rfl rfl rfl rfl Try.sizeOf29 rfl H5 p0 rfl ?_
      intro w6 H6
      refine WO.v 9 rfl rfl (r_assignI rfl rfl) ?_
      refine WO.done (Run.seq (Run.regionL [0, 1, 2, 3, 4] rfl ?_))
      refine WO.v 21 rfl rfl (r_loadK (vs := [.int .i64 now, .int .i64 (addO order id ah lv.flatten.flatten), .slice A4 (addL now order id ah lv).length c4]) rfl rfl Try.isAgg29 Try.sizeOf29 rfl (H6.cells p0)) ?_
      refine WO.scall 22 rfl rfl Try.call52 H6 .n (own_tri now (addO order id ah lv.flatten.flatten) A4 c4 (addL now order id ah lv) w6 (by rw [e1]; exact Kd.C_below hr H6.below) hsm1 hsm2) rfl rfl ?_
      rintro e LQ w7 ⟨A7, c7, rfl, rfl⟩ H7
      refine ⟨_, rfl, ?_⟩
      refine WO.v 23 rfl rfl (r_moveI rfl rfl) ?_
      refine WO.sstoreK (vs := [.int .i64 now, .int .i64 (addO order id ah lv.flatten.flatten), .slice A7 (addL now order id ah lv).length c7]) rfl rfl rfl rfl rfl rfl rfl Try.sizeOf29 rfl H7 p2 rfl ?_
      intro wS HS
      refine WO.v 7 rfl rfl (r_assignI rfl rfl) ?_
      exact WO.done (Run.ret2 (v2 := .int .i64 (addC order id ah lv.flatten.flatten)) Try.func27 Try.results27 ⟨_, rfl, run_loadVarK Try.isAgg29 Try.sizeOf29 rfl (HS.cells p2)⟩ rfl ⟨_, ⟨now, _, _, _, A7, c7, rfl, rfl, .inr ⟨hG, rfl, rfl, rfl, rfl⟩⟩, HS.sel (.c q0 .n)⟩)
    · have H4 := H4'
      refine WO.salloc 8 (cs := [.int .i64 0, .int .i64 0, .slice none 0 0]) rfl rfl rfl Try.zeroValue29 rfl H4 ?_
      intro g8 w5 H5
      refine WO.sstoreK (vs := [.int .i64 now, .int .i64 (addO order id ah lv.flatten.flatten), .slice A4 (addL now order id ah lv).length c4]) rfl rfl rfl rfl rfl rfl rfl Try.sizeOf29 rfl H5 p0 rfl ?_
      intro w6 H6
      refine WO.v 9 rfl rfl (r_assignI rfl rfl) ?_
      refine WO.done (Run.seq (Run.regionL [0, 1, 2, 3, 4] rfl ?_))
      refine WO.v 21 rfl rfl (r_loadK (vs := [.int .i64 now, .int .i64 (addO order id ah lv.flatten.flatten), .slice A4 (addL now order id ah lv).length c4]) rfl rfl Try.isAgg29 Try.sizeOf29 rfl (H6.cells p0)) ?_
      refine WO.scall 22 rfl rfl Try.call52 H6 .n (own_tri now (addO order id ah lv.flatten.flatten) A4 c4 (addL now order id ah lv) w6 (H6.rdC p1) hsm1 hsm2) rfl rfl ?_
      rintro e LQ w7 ⟨A7, c7, rfl, rfl⟩ H7
      refine ⟨_, rfl, ?_⟩
      refine WO.v 23 rfl rfl (r_moveI rfl rfl) ?_
      refine WO.sstoreK (vs := [.int .i64 now, .int .i64 (addO order id ah lv.flatten.flatten), .slice A7 (addL now order id ah lv).length c7]) rfl rfl rfl rfl rfl rfl rfl Try.sizeOf29 rfl H7 p3 rfl ?_
      intro wS HS
      refine WO.v 7 rfl rfl (r_assignI rfl rfl) ?_
      exact WO.done (Run.ret2 (v2 := .int .i64 (addC order id ah lv.flatten.flatten)) Try.func27 Try.results27 ⟨_, rfl, run_loadVarK Try.isAgg29 Try.sizeOf29 rfl (HS.cells p3)⟩ rfl ⟨_, ⟨now, _, _, _, A7, c7, rfl, rfl, .inr ⟨hG, rfl, rfl, rfl, rfl⟩⟩, HS.sel (.c q0 .n)⟩)
end Go.Proofs.Ytojpimpfpjhflaa.Wh
