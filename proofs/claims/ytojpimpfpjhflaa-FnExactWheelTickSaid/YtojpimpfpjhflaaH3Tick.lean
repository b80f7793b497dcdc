/- The wheel: tick, in both programs; no condition. -/
import Derived.Test.YtojpimpfpjhflaaH2
namespace Go.Proofs.Ytojpimpfpjhflaa.Wh
open Go.RowKit Go.Proofs.Ytojpimpfpjhflaa.Fw Go.Proofs.YtojpimpfpjhflaaW.PrintWords Go.Proofs.Ytojpimpfpjhflaa.PFnExactWheelOK
set_option linter.unusedVariables false
set_option linter.unusedSimpArgs false
theorem where_calls (now at_ : Int) (w : World) (h0 : 0 ≤ now) (h1 : now ≤ 1000000) (h2 : 0 ≤ at_) (h3 : at_ ≤ 1000500) :
    Calls Try.prog 35 #[.int .i64 now, .int .i64 at_] w fun e w' => e = .returned (.tuple #[.int .i64 (placeP at_ now).1, .int .i64 (placeP at_ now).2]) ∧ Below w.heap.size w w' := by
  obtain ⟨k, hk⟩ := (where_f now at_ h0 h1 h2 h3).ex
  exact (spec_l11Where.calls k now at_ _ _ w hk).mono fun e w' h => ⟨h.1, h.2.below⟩
/-- A timer is put into a slot by its order. -/
def insO (x : S57) (sl : List S57) : List S57 := sl.takeWhile (fun y => decide (y.f2 < x.f2)) ++ [x] ++ sl.dropWhile (fun y => decide (y.f2 < x.f2))
def putO (now : Int) (x : S57) (lv : List (List (List S57))) : List (List (List S57)) :=
  lv.set (placeP x.f1 now).1.toNat ((lv.getD (placeP x.f1 now).1.toNat []).set (placeP x.f1 now).2.toNat (insO x ((lv.getD (placeP x.f1 now).1.toNat []).getD (placeP x.f1 now).2.toNat [])))
theorem putO_at {now : Int} {x : S57} {lv : List (List (List S57))} {l s : Nat} (h : placeP x.f1 now = ((l : Int), (s : Int))) : putO now x lv = lv.set l ((lv.getD l []).set s (insO x ((lv.getD l []).getD s []))) := by
  unfold putO
  rw [h]
  rfl
theorem insO_cut (x : S57) (sl : List S57) (i : Nat) (hi : i ≤ sl.length) (h1 : ∀ y ∈ sl.take i, y.f2 < x.f2) (h2 : i < sl.length → ¬ (sl.getD i z57).f2 < x.f2) : [] ++ sl.take i ++ [x] ++ sl.drop i = insO x sl := by
  have e : sl = sl.take i ++ sl.drop i := (List.take_append_drop i sl).symm
  have a1 : (sl.take i).takeWhile (fun y => decide (y.f2 < x.f2)) = sl.take i := by
    generalize sl.take i = a at h1
    induction a with
    | nil => rfl
    | cons y a ih => rw [List.takeWhile_cons, if_pos (decide_eq_true (h1 y List.mem_cons_self)), ih fun z hz => h1 z (List.mem_cons_of_mem _ hz)]
  have a2 : (sl.drop i).takeWhile (fun y => decide (y.f2 < x.f2)) = [] ∧ (sl.drop i).dropWhile (fun y => decide (y.f2 < x.f2)) = sl.drop i := by
    rcases Nat.lt_or_ge i sl.length with h | h
    · rw [drop_getD sl i z57 h, List.takeWhile_cons, List.dropWhile_cons, if_neg (by simpa using h2 h), if_neg (by simpa using h2 h)]
      exact ⟨rfl, rfl⟩
    · rw [List.drop_of_length_le h]; exact ⟨rfl, rfl⟩
  have a3 : ∀ (a b : List S57), a.takeWhile (fun y => decide (y.f2 < x.f2)) = a → (a ++ b).takeWhile (fun y => decide (y.f2 < x.f2)) = a ++ b.takeWhile (fun y => decide (y.f2 < x.f2)) ∧ (a ++ b).dropWhile (fun y => decide (y.f2 < x.f2)) = b.dropWhile (fun y => decide (y.f2 < x.f2)) := by
    intro a b ha
    induction a with
    | nil => exact ⟨rfl, rfl⟩
    | cons y a ih =>
      rw [List.takeWhile_cons] at ha
      split at ha
      · rename_i hy
        obtain ⟨e1, e2⟩ := ih (List.cons.inj ha).2
        rw [List.cons_append, List.takeWhile_cons, if_pos hy, List.dropWhile_cons, if_pos hy, e1, e2]
        exact ⟨rfl, rfl⟩
      · cases ha
  obtain ⟨e1, e2⟩ := a3 _ (sl.drop i) a1
  rw [← e] at e1 e2
  unfold insO
  rw [e1, e2, a2.1, a2.2, List.append_nil, List.nil_append]
set_option maxHeartbeats 1000000 in
set_option maxRecDepth 20000 in
theorem put_tri (now order : Int) (AW : Option Addr) (co : Nat) (lv : List (List (List S57))) (x : S57) (w : World) (h3l : lv.length = 3) (h8l : ∀ l, l < 3 → (lv.getD l []).length = 8) (hsmall : ∀ l s, ((lv.getD l []).getD s []).length ≤ 1048576) (hn0 : 0 ≤ now) (hn1 : now ≤ 1000000) (hx0 : 0 ≤ x.f1) (hx1 : x.f1 ≤ 1000500) :
    Tri Try.prog 66 #[.agg #[.int .i64 now, .int .i64 order, .slice AW lv.length co], .agg #[.int .i64 x.f0, .int .i64 x.f1, .int .i64 x.f2]] w [Rw o54 54 (.slice AW lv.length co) lv] fun e LQ => e = .returned (.tuple #[]) ∧ LQ = [Rw o54 54 (.slice AW (putO now x lv).length co) (putO now x lv)] := by
  refine tri_of_run (fn := Try.f66) (n := 59) Try.func66 rfl Try.ntmps66 (Nat.le_of_ble_eq_true rfl) fun S H => ?_
  obtain ⟨gl, rfl, _⟩ := H.lies p0 (by omega)
  obtain ⟨l, s, hl, hs, hpl⟩ := place_lt (at_ := x.f1) (now := now) hx0
  rw [putO_at hpl]
  have hgl : lv[l]? = some (lv.getD l []) := getElem?_getD [] (by omega)
  have hgs : (lv.getD l [])[s]? = some ((lv.getD l []).getD s []) := getElem?_getD [] (by rw [h8l l hl]; exact hs)
  have hllev := h8l l hl
  have hle := hsmall l s
  refine Run.seq (Run.regionL [0, 1] rfl ?_)
  refine WO.sbox 2 (cs := [.int .i64 now, .int .i64 order, .slice (some ⟨gl, 0, none⟩) lv.length co]) rfl rfl rfl rfl H ?_
  intro g2 w1 H1
  refine WO.sbox 3 (cs := [.int .i64 x.f0, .int .i64 x.f1, .int .i64 x.f2]) rfl rfl rfl rfl H1 ?_
  intro g3 w2 H2
  refine WO.done (Run.seq (Run.regionL [0, 1, 2, 3, 4, 5, 6, 7, 8, 9] rfl ?_))
  refine WO.v 9 rfl rfl (r_fieldAddr rfl rfl Try.underlying29 rfl Try.sizeOf3 (q := 0 + 0) rfl) ?_
  refine WO.v 10 rfl rfl (r_load rfl rfl Try.isAgg3 (H2.cell p1 rfl)) ?_
  refine WO.v 11 rfl rfl (r_fieldAddr rfl rfl Try.underlying57 rfl Try.sizeOf3 (q := 0 + 1) rfl) ?_
  refine WO.v 12 rfl rfl (r_load rfl rfl Try.isAgg3 (H2.cell p0 rfl)) ?_
  refine WO.call_ 13 rfl rfl Try.call35 (where_calls now x.f1 w2 hn0 hn1 hx0 hx1) rfl rfl ?_
  rintro e w3 ⟨rfl, hb3⟩
  refine ⟨_, rfl, ?_⟩
  have H3 := H2.step hb3
  rw [hpl]
  refine WO.v 8 rfl rfl (r_moveT rfl rfl) ?_
  refine WO.v 14 rfl rfl (r_extract rfl rfl rfl) ?_
  refine WO.v 15 rfl rfl (r_extract rfl rfl rfl) ?_
  refine WO.v 4 rfl rfl (r_assignI rfl rfl) ?_
  refine WO.v 5 rfl rfl (r_assignI rfl rfl) ?_
  obtain ⟨A1, c1, H4⟩ := H3.takeR p2 l hgl
  obtain ⟨A2, c2, H5⟩ := H4.takeR p0 s hgs
  obtain ⟨_, _, gl1, rfl, _⟩ := H5.hole p1
  generalize hsd : (lv.getD l []).getD s [] = sl at *
  generalize hld : lv.getD l [] = lev at *
  refine WO.done (Run.seq (Run.regionL [0, 1, 2, 3, 4, 5, 6, 7, 8] rfl ?_))
  refine WO.v 16 rfl rfl (r_fieldAddr rfl rfl Try.underlying29 rfl Try.sizeOf27 (q := 0 + 2) rfl) ?_
  refine WO.v 17 rfl rfl (r_load rfl rfl Try.isAgg27 (H5.cell p3 rfl)) ?_
  refine WO.v 18 rfl rfl (r_moveI rfl rfl) ?_
  refine WO.v 19 rfl rfl (r_indexAddr rfl rfl rfl Try.underlying27 Try.sizeOf54 (by omega) (by omega) (q := 0 + l) (by rw [Int.toNat_natCast, Nat.mul_one])) ?_
  refine WO.v 20 rfl rfl (r_load rfl rfl Try.isAgg54 (H5.holeCell p4 rfl)) ?_
  refine WO.v 21 rfl rfl (r_moveI rfl rfl) ?_
  refine WO.v 22 rfl rfl (r_indexAddr rfl rfl rfl Try.underlying54 Try.sizeOf55 (by omega) (by omega) (q := 0 + s) (by rw [Int.toNat_natCast, Nat.mul_one])) ?_
  refine WO.v 23 rfl rfl (r_load rfl rfl Try.isAgg55 (H5.holeCell p1 rfl)) ?_
  refine WO.v 6 rfl rfl (r_assignL rfl rfl) ?_
  refine WO.done (Run.seq (Run.regionL [0] rfl ?_))
  refine WO.v 7 rfl rfl (r_assignI rfl rfl) ?_
  refine WO.done (Run.seq (Run.block ?_))
  refine Run.loopInv (fun m τ wr => ∃ (i : Nat), i + m = sl.length ∧ τ 2 = .pointer (some ⟨g2, 0, none⟩) ∧ τ 3 = .pointer (some ⟨g3, 0, none⟩) ∧ τ 4 = .int .i64 l ∧ τ 5 = .int .i64 s ∧ τ 6 = .slice A2 sl.length c2 ∧ τ 7 = .int .i64 i ∧ (∀ y ∈ sl.take i, y.f2 < x.f2) ∧
      St w S [Rw o57 57 (.slice A2 sl.length c2) sl, RwH o55 55 (.slice (some ⟨gl1, 0, none⟩) lev.length c1) lev s [.slice A2 sl.length c2], Bk g3 [.int .i64 x.f0, .int .i64 x.f1, .int .i64 x.f2] 57, Bk g2 [.int .i64 now, .int .i64 order, .slice (some ⟨gl, 0, none⟩) lv.length co] 29, RwH o54 54 (.slice (some ⟨gl, 0, none⟩) lv.length co) lv l [.slice (some ⟨gl1, 0, none⟩) lev.length c1]] wr) sl.length ⟨0, by omega, rfl, rfl, rfl, rfl, rfl, rfl, fun y hy => by simp at hy, H5⟩ ?_
  clear H H1 H2 H3 H4 H5
  rintro m τ wr ih ⟨i, hm, h2, h3, h4, h5, h6, h7, hlt, H⟩
  have stop : (i < sl.length → ¬ (sl.getD i z57).f2 < x.f2) → ∀ (τ : Tm) (wr : World), τ 2 = .pointer (some ⟨g2, 0, none⟩) → τ 3 = .pointer (some ⟨g3, 0, none⟩) → τ 4 = .int .i64 l → τ 5 = .int .i64 s → τ 6 = .slice A2 sl.length c2 → τ 7 = .int .i64 i → St w S [Rw o57 57 (.slice A2 sl.length c2) sl, RwH o55 55 (.slice (some ⟨gl1, 0, none⟩) lev.length c1) lev s [.slice A2 sl.length c2], Bk g3 [.int .i64 x.f0, .int .i64 x.f1, .int .i64 x.f2] 57, Bk g2 [.int .i64 now, .int .i64 order, .slice (some ⟨gl, 0, none⟩) lv.length co] 29, RwH o54 54 (.slice (some ⟨gl, 0, none⟩) lv.length co) lv l [.slice (some ⟨gl1, 0, none⟩) lev.length c1]] wr → Run Try.prog 66 59 (fun e w' => ∃ LQ, (e = .returned (.tuple #[]) ∧ LQ = [Rw o54 54 (.slice (some ⟨gl, 0, none⟩) (lv.set l (lev.set s (insO x sl))).length co) (lv.set l (lev.set s (insO x sl)))]) ∧ St w S LQ w') [.code (Go.Code.region 6 #[{ dst := some 40, op := Go.Op.fieldAddr 29 (Go.Operand.tmp 2) 2, type := 0, pos := "l11_wheel.go:94", after := #[], guard := none }, { dst := some 41, op := Go.Op.load 27 (Go.Operand.tmp 40), type := 27, pos := "l11_wheel.go:94", after := #[{ on := 0, ground := Go.Ground.data }], guard := none }, { dst := some 42, op := Go.Op.move (Go.Operand.tmp 4), type := 3, pos := "l11_wheel.go:94", after := #[], guard := none }, { dst := some 43, op := Go.Op.indexAddr 27 (Go.Operand.tmp 41) (Go.Operand.tmp 42), type := 0, pos := "l11_wheel.go:94", after := #[{ on := 1, ground := Go.Ground.data }, { on := 2, ground := Go.Ground.data }], guard := none }, { dst := some 44, op := Go.Op.load 54 (Go.Operand.tmp 43), type := 54, pos := "l11_wheel.go:94", after := #[{ on := 3, ground := Go.Ground.data }], guard := none }, { dst := some 45, op := Go.Op.move (Go.Operand.tmp 5), type := 3, pos := "l11_wheel.go:94", after := #[], guard := none }, { dst := some 46, op := Go.Op.buildSlice 55 0 #[], type := 55, pos := "l11_wheel.go:94", after := #[], guard := none }, { dst := some 47, op := Go.Op.move (Go.Operand.tmp 6), type := 55, pos := "l11_wheel.go:94", after := #[], guard := none }, { dst := some 48, op := Go.Op.move (Go.Operand.tmp 7), type := 3, pos := "l11_wheel.go:94", after := #[], guard := none }, { dst := some 49, op := Go.Op.slice 55 (Go.Operand.tmp 47) none (some (Go.Operand.tmp 48)) none, type := 55, pos := "l11_wheel.go:94", after := #[{ on := 7, ground := Go.Ground.data }, { on := 8, ground := Go.Ground.data }], guard := none }, { dst := some 50, op := Go.Op.call { callee := Go.Callee.builtin Go.Builtin.append, args := #[Go.Operand.tmp 46, Go.Operand.tmp 49], argTypes := #[55, 55] }, type := 55, pos := "l11_wheel.go:94", after := #[{ on := 6, ground := Go.Ground.data }, { on := 9, ground := Go.Ground.data }], guard := none }, { dst := some 51, op := Go.Op.load 57 (Go.Operand.tmp 3), type := 57, pos := "l11_wheel.go:94", after := #[], guard := none }, { dst := some 52, op := Go.Op.buildSlice 55 1 #[(0, Go.Operand.tmp 51)], type := 55, pos := "l11_wheel.go:94", after := #[{ on := 11, ground := Go.Ground.data }], guard := none }, { dst := some 53, op := Go.Op.call { callee := Go.Callee.builtin Go.Builtin.append, args := #[Go.Operand.tmp 50, Go.Operand.tmp 52], argTypes := #[55, 55] }, type := 55, pos := "l11_wheel.go:94", after := #[{ on := 10, ground := Go.Ground.data }, { on := 12, ground := Go.Ground.data }, { on := 10, ground := Go.Ground.chain }], guard := none }, { dst := some 54, op := Go.Op.move (Go.Operand.tmp 6), type := 55, pos := "l11_wheel.go:94", after := #[], guard := none }, { dst := some 55, op := Go.Op.move (Go.Operand.tmp 7), type := 3, pos := "l11_wheel.go:94", after := #[], guard := none }, { dst := some 56, op := Go.Op.slice 55 (Go.Operand.tmp 54) (some (Go.Operand.tmp 55)) none none, type := 55, pos := "l11_wheel.go:94", after := #[{ on := 14, ground := Go.Ground.data }, { on := 15, ground := Go.Ground.data }], guard := none }, { dst := some 57, op := Go.Op.call { callee := Go.Callee.builtin Go.Builtin.append, args := #[Go.Operand.tmp 53, Go.Operand.tmp 56], argTypes := #[55, 55] }, type := 55, pos := "l11_wheel.go:94", after := #[{ on := 13, ground := Go.Ground.data }, { on := 16, ground := Go.Ground.data }, { on := 13, ground := Go.Ground.chain }], guard := none }, { dst := some 58, op := Go.Op.indexAddr 54 (Go.Operand.tmp 44) (Go.Operand.tmp 45), type := 0, pos := "l11_wheel.go:94", after := #[{ on := 4, ground := Go.Ground.data }, { on := 5, ground := Go.Ground.data }, { on := 0, ground := Go.Ground.phase }, { on := 1, ground := Go.Ground.phase }, { on := 2, ground := Go.Ground.phase }, { on := 3, ground := Go.Ground.phase }, { on := 4, ground := Go.Ground.phase }, { on := 5, ground := Go.Ground.phase }, { on := 6, ground := Go.Ground.phase }, { on := 7, ground := Go.Ground.phase }, { on := 8, ground := Go.Ground.phase }, { on := 9, ground := Go.Ground.phase }, { on := 10, ground := Go.Ground.phase }, { on := 11, ground := Go.Ground.phase }, { on := 12, ground := Go.Ground.phase }, { on := 13, ground := Go.Ground.phase }, { on := 14, ground := Go.Ground.phase }, { on := 15, ground := Go.Ground.phase }, { on := 16, ground := Go.Ground.phase }, { on := 17, ground := Go.Ground.phase }], guard := none }, { dst := none, op := Go.Op.store 55 (Go.Operand.tmp 58) (Go.Operand.tmp 57), type := 0, pos := "l11_wheel.go:94", after := #[{ on := 18, ground := Go.Ground.data }, { on := 17, ground := Go.Ground.data }, { on := 17, ground := Go.Ground.chain }, { on := 0, ground := Go.Ground.phase }, { on := 1, ground := Go.Ground.phase }, { on := 2, ground := Go.Ground.phase }, { on := 3, ground := Go.Ground.phase }, { on := 4, ground := Go.Ground.phase }, { on := 5, ground := Go.Ground.phase }, { on := 6, ground := Go.Ground.phase }, { on := 7, ground := Go.Ground.phase }, { on := 8, ground := Go.Ground.phase }, { on := 9, ground := Go.Ground.phase }, { on := 10, ground := Go.Ground.phase }, { on := 11, ground := Go.Ground.phase }, { on := 12, ground := Go.Ground.phase }, { on := 13, ground := Go.Ground.phase }, { on := 14, ground := Go.Ground.phase }, { on := 15, ground := Go.Ground.phase }, { on := 16, ground := Go.Ground.phase }, { on := 17, ground := Go.Ground.phase }], guard := none }] true)] τ wr := by
    intro hstop τ wr h2 h3 h4 h5 h6 h7 H
    have hcut := insO_cut x sl i (by omega) hlt hstop
    have hc2 := (H.rd p0).2.1
    clear hlt
    generalize hqd : (if c2 = i then 0 else 0 + i * 3) = q
    refine Run.mix 18 (fun j => if j = 6 then 10 else if j = 10 then 13 else if j = 12 then 13 else if j = 13 then 17 else 18) (fun _ => []) (fun ii v Lp => ((fun i => Nat.beq i 6 || Nat.beq i 10 || Nat.beq i 12 || Nat.beq i 13 || Nat.beq i 17) ii = false → Lp = []) ∧ match ii with
        | 0 => v = .pointer (some ⟨g2, 2, none⟩)
        | 1 => v = .slice (some ⟨gl, 0, none⟩) lv.length co
        | 2 => v = .int .i64 (l : Int)
        | 3 => v = .pointer (some ⟨gl, 0 + l, none⟩)
        | 4 => v = .slice (some ⟨gl1, 0, none⟩) lev.length c1
        | 5 => v = .int .i64 (s : Int)
        | 6 => ∃ g, v = .slice (some ⟨g, 0, none⟩) ([] : List S57).length ([] : List S57).length ∧ Lp = [Rw o57 57 (.slice (some ⟨g, 0, none⟩) ([] : List S57).length ([] : List S57).length) ([] : List S57)]
        | 7 => v = .slice A2 sl.length c2
        | 8 => v = .int .i64 (i : Int)
        | 9 => v = .slice A2 i c2
        | 10 => ∃ A' c', v = .slice A' (([] : List S57) ++ sl.take i).length c' ∧ Lp = [Rw o57 57 (.slice A' (([] : List S57) ++ sl.take i).length c') (([] : List S57) ++ sl.take i)]
        | 11 => v = .agg #[.int .i64 x.f0, .int .i64 x.f1, .int .i64 x.f2]
        | 12 => ∃ g, v = .slice (some ⟨g, 0, none⟩) [x].length [x].length ∧ Lp = [Rw o57 57 (.slice (some ⟨g, 0, none⟩) [x].length [x].length) [x]]
        | 13 => ∃ A' c' B, v = .slice A' (([] : List S57) ++ sl.take i ++ [x]).length c' ∧ Lp = [Rw o57 57 (.slice A' (([] : List S57) ++ sl.take i ++ [x]).length c') (([] : List S57) ++ sl.take i ++ [x]), B]
        | 14 => v = .slice A2 sl.length c2
        | 15 => v = .int .i64 (i : Int)
        | 16 => ∃ A' c', v = .slice A' (sl.drop i).length c' ∧ ∀ w', Kd.C k57 w' A2 sl.length sl → Kd.C k57 w' A' (sl.drop i).length (sl.drop i)
        | 17 => ∃ A' c' B, v = .slice A' (([] : List S57) ++ sl.take i ++ [x] ++ sl.drop i).length c' ∧ Lp = [Rw o57 57 (.slice A' (([] : List S57) ++ sl.take i ++ [x] ++ sl.drop i).length c') (([] : List S57) ++ sl.take i ++ [x] ++ sl.drop i), B]
        | _ => True)
      [Rw o57 57 (.slice A2 sl.length c2) sl, RwH o55 55 (.slice (some ⟨gl1, 0, none⟩) lev.length c1) lev s [.slice A2 sl.length c2], Bk g3 [.int .i64 x.f0, .int .i64 x.f1, .int .i64 x.f2] 57, Bk g2 [.int .i64 now, .int .i64 order, .slice (some ⟨gl, 0, none⟩) lv.length co] 29, RwH o54 54 (.slice (some ⟨gl, 0, none⟩) lv.length co) lv l [.slice (some ⟨gl1, 0, none⟩) lev.length c1]] H (by kernel_rfl) rfl (by kernel_rfl) (by kernel_rfl) ?_ ?_
    · intro ii hii
      match ii, hii with
      | 0, _ =>
        exact ⟨_, rfl, fun τ' w' Lp Rest hfr hq HS => ⟨fun _ => opStep.val (r_fieldAddr rfl (show τ' 2 = .pointer (some ⟨g2, 0, none⟩) from (hfr 2 (by kernel_rfl)).trans h2) Try.underlying29 rfl Try.sizeOf27 (q := 2) rfl) ⟨[], ⟨fun _ => rfl, rfl⟩, HS⟩, fun h => nomatch h⟩⟩
      | 1, _ =>
        exact ⟨_, rfl, fun τ' w' Lp Rest hfr hq HS => ⟨fun _ => opStep.val (r_load rfl (show τ' 40 = .pointer (some ⟨g2, 2, none⟩) from (hq 0 (by kernel_rfl)).2) Try.isAgg27 (HS.cell p3 rfl)) ⟨[], ⟨fun _ => rfl, rfl⟩, HS⟩, fun h => nomatch h⟩⟩
      | 2, _ =>
        exact ⟨_, rfl, fun τ' w' Lp Rest hfr hq HS => ⟨fun _ => opStep.val (r_moveI rfl (show τ' 4 = .int .i64 (l : Int) from (hfr 4 (by kernel_rfl)).trans h4)) ⟨[], ⟨fun _ => rfl, rfl⟩, HS⟩, fun h => nomatch h⟩⟩
      | 3, _ =>
        exact ⟨_, rfl, fun τ' w' Lp Rest hfr hq HS => ⟨fun _ => opStep.val (r_indexAddr rfl (show τ' 41 = .slice (some ⟨gl, 0, none⟩) lv.length co from (hq 1 (by kernel_rfl)).2) (show τ' 42 = .int .i64 (l : Int) from (hq 2 (by kernel_rfl)).2) Try.underlying27 Try.sizeOf54 (by omega) (by omega) (q := 0 + l) (by rw [Int.toNat_natCast, Nat.mul_one])) ⟨[], ⟨fun _ => rfl, rfl⟩, HS⟩, fun h => nomatch h⟩⟩
      | 4, _ =>
        exact ⟨_, rfl, fun τ' w' Lp Rest hfr hq HS => ⟨fun _ => opStep.val (r_load (v := .slice (some ⟨gl1, 0, none⟩) lev.length c1) rfl (show τ' 43 = .pointer (some ⟨gl, 0 + l, none⟩) from (hq 3 (by kernel_rfl)).2) Try.isAgg54 (HS.holeCell p4 rfl)) ⟨[], ⟨fun _ => rfl, rfl⟩, HS⟩, fun h => nomatch h⟩⟩
      | 5, _ =>
        exact ⟨_, rfl, fun τ' w' Lp Rest hfr hq HS => ⟨fun _ => opStep.val (r_moveI rfl (show τ' 5 = .int .i64 (s : Int) from (hfr 5 (by kernel_rfl)).trans h5)) ⟨[], ⟨fun _ => rfl, rfl⟩, HS⟩, fun h => nomatch h⟩⟩
      | 6, _ =>
        refine ⟨_, rfl, fun τ' w' Lp Rest hfr hq HS => ⟨fun _ => ?_, fun h => nomatch h⟩⟩
        exact opStep.val (r_lit rfl (lit55 w') rfl) ⟨_, ⟨fun h => Bool.noConfusion h, _, rfl, rfl⟩, St.into (X := [_]) (HS.row_new (ow := o57) (e := 57) (xs := ([] : List S57)) (vss := []) rfl own_nil_ (by decide))⟩
      | 7, _ =>
        exact ⟨_, rfl, fun τ' w' Lp Rest hfr hq HS => ⟨fun _ => opStep.val (r_moveL rfl (show τ' 6 = .slice A2 sl.length c2 from (hfr 6 (by kernel_rfl)).trans h6)) ⟨[], ⟨fun _ => rfl, rfl⟩, HS⟩, fun h => nomatch h⟩⟩
      | 8, _ =>
        exact ⟨_, rfl, fun τ' w' Lp Rest hfr hq HS => ⟨fun _ => opStep.val (r_moveI rfl (show τ' 7 = .int .i64 (i : Int) from (hfr 7 (by kernel_rfl)).trans h7)) ⟨[], ⟨fun _ => rfl, rfl⟩, HS⟩, fun h => nomatch h⟩⟩
      | 9, _ =>
        exact ⟨_, rfl, fun τ' w' Lp Rest hfr hq HS => ⟨fun _ => opStep.val (r_sliceHigh rfl (show τ' 47 = .slice A2 sl.length c2 from (hq 7 (by kernel_rfl)).2) (show τ' 48 = .int .i64 (i : Int) from (hq 8 (by kernel_rfl)).2) Try.underlying55 Try.sizeOf57 (by omega)) ⟨[], ⟨fun _ => rfl, rfl⟩, HS⟩, fun h => nomatch h⟩⟩
      | 10, _ =>
        refine ⟨_, rfl, fun τ' w' Lp Rest hfr hq HS => ⟨fun _ => ?_, fun h => nomatch h⟩⟩
        obtain ⟨g, h46, hL⟩ : ∃ g, τ' 46 = .slice (some ⟨g, 0, none⟩) ([] : List S57).length ([] : List S57).length ∧ Lp 6 = [Rw o57 57 (.slice (some ⟨g, 0, none⟩) ([] : List S57).length ([] : List S57).length) ([] : List S57)] := (hq 6 (by kernel_rfl)).2
        have h49 : τ' 49 = .slice A2 (sl.take i).length c2 := (show τ' 49 = .slice A2 i c2 from (hq 9 (by kernel_rfl)).2).trans (by rw [List.length_take, Nat.min_eq_left (by omega)])
        have HS2 : St w S ([Rw o57 57 (.slice A2 sl.length c2) sl, RwH o55 55 (.slice (some ⟨gl1, 0, none⟩) lev.length c1) lev s [.slice A2 sl.length c2], Bk g3 [.int .i64 x.f0, .int .i64 x.f1, .int .i64 x.f2] 57, Bk g2 [.int .i64 now, .int .i64 order, .slice (some ⟨gl, 0, none⟩) lv.length co] 29, RwH o54 54 (.slice (some ⟨gl, 0, none⟩) lv.length co) lv l [.slice (some ⟨gl1, 0, none⟩) lev.length c1]] ++ (Lp 6 ++ []) ++ Rest) w' := HS
        rw [hL] at HS2
        obtain ⟨A', c', w'', hr, H'⟩ := append_flat (P := Try.prog) (t := 55) (ty := 55) (e := 57) (c2 := c2) (ow := o57) Try.underlying55 info57 rfl (Nat.succ_pos 2) flat57 HS2 p5 (C_take (HS2.rdC p0) i) (by simp only [List.length_append, List.length_take, List.length_drop, List.length_cons, List.length_nil]; omega) (by simp only [List.length_append, List.length_take, List.length_drop, List.length_cons, List.length_nil]; omega)
        exact opStep.val (r_append rfl h46 h49 hr) ⟨_, ⟨fun h => Bool.noConfusion h, A', c', rfl, rfl⟩, H'⟩
      | 11, _ =>
        exact ⟨_, rfl, fun τ' w' Lp Rest hfr hq HS => ⟨fun _ => opStep.val (r_loadK (vs := [.int .i64 x.f0, .int .i64 x.f1, .int .i64 x.f2]) rfl (show τ' 3 = .pointer (some ⟨g3, 0, none⟩) from (hfr 3 (by kernel_rfl)).trans h3) Try.isAgg57 Try.sizeOf57 rfl (HS.cells p2)) ⟨[], ⟨fun _ => rfl, rfl⟩, HS⟩, fun h => nomatch h⟩⟩
      | 12, _ =>
        refine ⟨_, rfl, fun τ' w' Lp Rest hfr hq HS => ⟨fun _ => ?_, fun h => nomatch h⟩⟩
        have h51 : τ' 51 = .agg #[.int .i64 x.f0, .int .i64 x.f1, .int .i64 x.f2] := (hq 11 (by kernel_rfl)).2
        exact opStep.val (r_lit rfl (lit1 x w') (bparts1 h51)) ⟨_, ⟨fun h => Bool.noConfusion h, _, rfl, rfl⟩, St.into (X := [_]) (HS.row_new (ow := o57) (e := 57) (xs := [x]) (vss := [[.int .i64 x.f0, .int .i64 x.f1, .int .i64 x.f2]]) rfl (own_one_ (flat57 (k57_mk _ x))) (show 1 ≤ maxLen by decide))⟩
      | 13, _ =>
        refine ⟨_, rfl, fun τ' w' Lp Rest hfr hq HS => ⟨fun _ => ?_, fun h => nomatch h⟩⟩
        obtain ⟨A5, c5, h50, hL⟩ : ∃ A' c', τ' 50 = .slice A' (([] : List S57) ++ sl.take i).length c' ∧ Lp 10 = [Rw o57 57 (.slice A' (([] : List S57) ++ sl.take i).length c') (([] : List S57) ++ sl.take i)] := (hq 10 (by kernel_rfl)).2
        obtain ⟨g, h52, hL2⟩ : ∃ g, τ' 52 = .slice (some ⟨g, 0, none⟩) [x].length [x].length ∧ Lp 12 = [Rw o57 57 (.slice (some ⟨g, 0, none⟩) [x].length [x].length) [x]] := (hq 12 (by kernel_rfl)).2
        have HS2 : St w S ([Rw o57 57 (.slice A2 sl.length c2) sl, RwH o55 55 (.slice (some ⟨gl1, 0, none⟩) lev.length c1) lev s [.slice A2 sl.length c2], Bk g3 [.int .i64 x.f0, .int .i64 x.f1, .int .i64 x.f2] 57, Bk g2 [.int .i64 now, .int .i64 order, .slice (some ⟨gl, 0, none⟩) lv.length co] 29, RwH o54 54 (.slice (some ⟨gl, 0, none⟩) lv.length co) lv l [.slice (some ⟨gl1, 0, none⟩) lev.length c1]] ++ (Lp 10 ++ (Lp 12 ++ [])) ++ Rest) w' := HS
        rw [hL, hL2] at HS2
        obtain ⟨A', c', w'', hr, H'⟩ := append_flat (P := Try.prog) (t := 55) (ty := 55) (e := 57) (c2 := [x].length) (ow := o57) Try.underlying55 info57 rfl (Nat.succ_pos 2) flat57 HS2 p5 (HS2.rdC p6) (by simp only [List.length_append, List.length_take, List.length_drop, List.length_cons, List.length_nil]; omega) (by simp only [List.length_append, List.length_take, List.length_drop, List.length_cons, List.length_nil]; omega)
        exact opStep.val (r_append rfl h50 h52 hr) ⟨_, ⟨fun h => Bool.noConfusion h, A', c', _, rfl, rfl⟩, H'⟩
      | 14, _ =>
        exact ⟨_, rfl, fun τ' w' Lp Rest hfr hq HS => ⟨fun _ => opStep.val (r_moveL rfl (show τ' 6 = .slice A2 sl.length c2 from (hfr 6 (by kernel_rfl)).trans h6)) ⟨[], ⟨fun _ => rfl, rfl⟩, HS⟩, fun h => nomatch h⟩⟩
      | 15, _ =>
        exact ⟨_, rfl, fun τ' w' Lp Rest hfr hq HS => ⟨fun _ => opStep.val (r_moveI rfl (show τ' 7 = .int .i64 (i : Int) from (hfr 7 (by kernel_rfl)).trans h7)) ⟨[], ⟨fun _ => rfl, rfl⟩, HS⟩, fun h => nomatch h⟩⟩
      | 16, _ =>
        refine ⟨_, rfl, fun τ' w' Lp Rest hfr hq HS => ⟨fun _ => ?_, fun h => nomatch h⟩⟩
        have h54 : τ' 54 = .slice A2 sl.length c2 := (hq 14 (by kernel_rfl)).2
        have h55 : τ' 55 = .int .i64 (i : Int) := (hq 15 (by kernel_rfl)).2
        rcases Nat.eq_zero_or_pos sl.length with h0 | hpos
        · have hsl : sl = [] := List.eq_nil_of_length_eq_zero h0
          exact opStep.val (r_sliceLow0 rfl h54 h55 Try.underlying55 Try.sizeOf57 (by omega)) ⟨[], ⟨fun _ => rfl, _, _, by rw [List.length_drop], fun w2 _ => by rw [hsl, List.drop_nil]; exact ⟨rfl, Nat.zero_le _, fun h => absurd h (Nat.lt_irrefl _)⟩⟩, HS⟩
        · obtain ⟨gs, rfl, _⟩ := HS.lies p0 hpos
          exact opStep.val (r_sliceLow rfl h54 h55 Try.underlying55 Try.sizeOf57 (by omega) hqd) ⟨[], ⟨fun _ => rfl, _, _, by rw [List.length_drop], fun w2 hw => C_drop hw i (q := q) (fun h => by rw [← hqd, if_neg (by omega)]; rfl)⟩, HS⟩
      | 17, _ =>
        refine ⟨_, rfl, fun τ' w' Lp Rest hfr hq HS => ⟨fun _ => ?_, fun h => nomatch h⟩⟩
        obtain ⟨A5, c5, B5, h53, hL⟩ : ∃ A' c' B, τ' 53 = .slice A' (([] : List S57) ++ sl.take i ++ [x]).length c' ∧ Lp 13 = [Rw o57 57 (.slice A' (([] : List S57) ++ sl.take i ++ [x]).length c') (([] : List S57) ++ sl.take i ++ [x]), B] := (hq 13 (by kernel_rfl)).2
        obtain ⟨A6, c6, h56, hC⟩ : ∃ A' c', τ' 56 = .slice A' (sl.drop i).length c' ∧ ∀ w', Kd.C k57 w' A2 sl.length sl → Kd.C k57 w' A' (sl.drop i).length (sl.drop i) := (hq 16 (by kernel_rfl)).2
        have HS2 : St w S ([Rw o57 57 (.slice A2 sl.length c2) sl, RwH o55 55 (.slice (some ⟨gl1, 0, none⟩) lev.length c1) lev s [.slice A2 sl.length c2], Bk g3 [.int .i64 x.f0, .int .i64 x.f1, .int .i64 x.f2] 57, Bk g2 [.int .i64 now, .int .i64 order, .slice (some ⟨gl, 0, none⟩) lv.length co] 29, RwH o54 54 (.slice (some ⟨gl, 0, none⟩) lv.length co) lv l [.slice (some ⟨gl1, 0, none⟩) lev.length c1]] ++ (Lp 13 ++ []) ++ Rest) w' := HS
        rw [hL] at HS2
        obtain ⟨A', c', w'', hr, H'⟩ := append_flat (P := Try.prog) (t := 55) (ty := 55) (e := 57) (c2 := c6) (ow := o57) Try.underlying55 info57 rfl (Nat.succ_pos 2) flat57 HS2 p5 (hC _ (HS2.rdC p0)) (by simp only [List.length_append, List.length_take, List.length_drop, List.length_cons, List.length_nil]; omega) (by simp only [List.length_append, List.length_take, List.length_drop, List.length_cons, List.length_nil]; omega)
        exact opStep.val (r_append rfl h53 h56 hr) ⟨_, ⟨fun h => Bool.noConfusion h, A', c', _, rfl, rfl⟩, H'⟩
      | n + 18, hn => exact absurd hn (by omega)
    · intro τ' w9 Lp hQ hfr HS'
      rw [fm_pick (pr := fun i => Nat.beq i 6 || Nat.beq i 10 || Nat.beq i 12 || Nat.beq i 13 || Nat.beq i 17) (l := [17]) (fun j hj => (hQ j hj).1) (by kernel_rfl)] at HS'
      have HS := HS'
      obtain ⟨A6, c6, B6, h57, hL1⟩ : ∃ A' c' B, τ' 57 = .slice A' (([] : List S57) ++ sl.take i ++ [x] ++ sl.drop i).length c' ∧ Lp 17 = [Rw o57 57 (.slice A' (([] : List S57) ++ sl.take i ++ [x] ++ sl.drop i).length c') (([] : List S57) ++ sl.take i ++ [x] ++ sl.drop i), B] := (hQ 17 (by decide)).2
      have h44 : τ' 44 = .slice (some ⟨gl1, 0, none⟩) lev.length c1 := (hQ 4 (by decide)).2
      have h45 : τ' 45 = .int .i64 s := (hQ 5 (by decide)).2
      rw [List.flatMap_cons, hL1] at HS
      have HB : St w S (Rw o57 57 (.slice A6 (([] : List S57) ++ sl.take i ++ [x] ++ sl.drop i).length c6) (([] : List S57) ++ sl.take i ++ [x] ++ sl.drop i) :: [RwH o55 55 (.slice (some ⟨gl1, 0, none⟩) lev.length c1) lev s [.slice A2 sl.length c2], RwH o54 54 (.slice (some ⟨gl, 0, none⟩) lv.length co) lv l [.slice (some ⟨gl1, 0, none⟩) lev.length c1]]) w9 := HS.sel (.c q5 (.c q1 (.c q3 .n)))
      rw [hcut] at HB h57
      have HC := HB.elR p0
      clear HS HS' hQ hfr hL1 HB
      refine WO.v 58 rfl rfl (r_indexAddr rfl h44 h45 Try.underlying54 Try.sizeOf55 (by omega) (by omega) (q := 0 + s) (by rw [Int.toNat_natCast, Nat.mul_one])) ?_
      refine WO.sfill (j := s) rfl rfl rfl rfl h57 rfl Try.sizeOf55 rfl HC p0 (by show 0 + s = s * 1; omega) ?_
      intro wS HS
      have hls : (lev.set s (insO x sl)).length = lev.length := List.length_set
      have HD : St w S (Rw o55 55 (.slice (some ⟨gl1, 0, none⟩) (lev.set s (insO x sl)).length c1) (lev.set s (insO x sl)) :: [RwH o54 54 (.slice (some ⟨gl, 0, none⟩) lv.length co) lv l [.slice (some ⟨gl1, 0, none⟩) (lev.set s (insO x sl)).length c1]]) wS := by rw [hls]; exact HS
      have HE := HD.backR p0
      have hll : (lv.set l (lev.set s (insO x sl))).length = lv.length := List.length_set
      rw [← hll] at HE
      exact WO.done (Run.end0 Try.func66 Try.results66 ⟨_, ⟨rfl, rfl⟩, HE⟩)
  refine Run.seq (Run.seq ?_)
  refine Run.quiet _ (by kernel_rfl) (by kernel_rfl) (H.step ⟨rfl, rfl, rfl, Nat.le_refl _, fun _ _ => rfl⟩) _ rfl ?_
  refine WQ.v 24 rfl (fun W hW => r_moveI rfl h7) ?_
  refine WQ.v 25 rfl (fun W hW => r_moveL rfl h6) ?_
  refine WQ.v 26 rfl (fun W hW => r_len (e := 57) rfl rfl Try.underlying55) ?_
  by_cases hi : i < sl.length
  · obtain ⟨gs, rfl, _⟩ := H.lies p0 (by omega)
    refine WQ.v 27 rfl (fun W hW => r_lss rfl rfl rfl (decide_eq_true (show (i : Int) < (sl.length : Int) by omega))) ?_
    refine WQ.v 28 rfl (fun W hW => r_moveB rfl rfl) ?_
    refine WQ.v 29 rfl (fun W hW => r_moveL rfl h6) ?_
    refine WQ.v 30 rfl (fun W hW => r_moveI rfl h7) ?_
    refine WQ.v 31 rfl (fun W hW => r_indexAddr rfl rfl rfl Try.underlying55 Try.sizeOf57 (by omega) (by omega) (q := 0 + i * 3) (by rw [Int.toNat_natCast])) ?_
    refine WQ.v 32 rfl (fun W hW => r_fieldAddr rfl rfl Try.underlying57 rfl Try.sizeOf3 (q := 0 + i * 3 + 2) rfl) ?_
    refine WQ.v 33 rfl (fun W hW => r_load (v := .int .i64 (sl.getD i z57).f2) rfl rfl Try.isAgg3 (row_cells (hW.rdC p0) i hi 2 _ rfl)) ?_
    refine WQ.v 34 rfl (fun W hW => r_fieldAddr rfl h3 Try.underlying57 rfl Try.sizeOf3 (q := 0 + 2) rfl) ?_
    refine WQ.v 35 rfl (fun W hW => r_load rfl rfl Try.isAgg3 (hW.cell p2 rfl)) ?_
    by_cases hf : (sl.getD i z57).f2 < x.f2
    · refine WQ.v 36 rfl (fun W hW => r_lss rfl rfl rfl (decide_eq_true hf)) ?_
      refine WQ.v 37 rfl (fun W hW => r_pickB rfl rfl rfl) ?_
      refine WQ.done (fun w9 H9 => ?_)
      refine Run.condT rfl (Run.skip (Run.block (Run.regionL [0, 1, 2] rfl ?_)))
      refine WO.v 38 rfl rfl (r_moveI rfl h7) ?_
      refine WO.v 39 rfl rfl (r_add rfl rfl rfl (c := (i : Int) + 1) (wrap_in (by omega) (by omega))) ?_
      refine WO.v 7 rfl rfl (r_assignI rfl rfl) ?_
      refine WO.done (Run.blockEnd (ih (m - 1) _ _ (by omega) ⟨i + 1, by omega, h2, h3, h4, h5, h6, rfl, fun y hy => ?_, H9⟩))
      rw [take_snoc sl i hi] at hy
      rcases List.mem_append.1 hy with hy | hy
      · exact hlt y hy
      · rw [List.mem_singleton.1 hy]; exact hf
    · refine WQ.v 36 rfl (fun W hW => r_lss rfl rfl rfl (decide_eq_false hf)) ?_
      refine WQ.v 37 rfl (fun W hW => r_pickB rfl rfl rfl) ?_
      refine WQ.done (fun w9 H9 => ?_)
      exact Run.condF rfl (Run.exit rfl (stop (fun _ => hf) _ w9 h2 h3 h4 h5 h6 h7 H9))
  · refine WQ.v 27 rfl (fun W hW => r_lss rfl rfl rfl (decide_eq_false (show ¬ (i : Int) < (sl.length : Int) by omega))) ?_
    refine WQ.v 28 rfl (fun W hW => r_moveB rfl rfl) ?_
    refine WQ.x 29 rfl ?_
    refine WQ.x 30 rfl ?_
    refine WQ.x 31 rfl ?_
    refine WQ.x 32 rfl ?_
    refine WQ.x 33 rfl ?_
    refine WQ.x 34 rfl ?_
    refine WQ.x 35 rfl ?_
    refine WQ.x 36 rfl ?_
    refine WQ.v 37 rfl (fun W hW => r_pickB rfl rfl rfl) ?_
    refine WQ.done (fun w9 H9 => ?_)
    exact Run.condF rfl (Run.exit rfl (stop (fun h => absurd h hi) _ w9 h2 h3 h4 h5 h6 h7 H9))
end Go.Proofs.Ytojpimpfpjhflaa.Wh
namespace Go.Proofs.Ytojpimpfpjhflaa.Wh
open Go.RowKit Go.Proofs.Ytojpimpfpjhflaa.Fw Go.Proofs.YtojpimpfpjhflaaW.PrintWords Go.Proofs.Ytojpimpfpjhflaa.PFnExactWheelOK
set_option linter.unusedVariables false
set_option linter.unusedSimpArgs false
abbrev kI : Kd Int := Kd.int .i64
abbrev oI : Ow kI := Ow.int .i64
def mkI (x : Int) (k : Int) : Int := k
def cnI (x : Int) : Nat := 1
theorem cnI_sum : ∀ l : List Int, sumOf cnI l = l.length
  | [] => rfl
  | x :: l => by simp only [sumOf, cnI, cnI_sum l, List.length_cons]; omega
/-- How a row of ints is marked. -/
def mkIs (xs : List Int) (k : Int) : List Int := mkL mkI cnI xs k
theorem mkIs_len (xs : List Int) (k : Int) : (mkIs xs k).length = xs.length := mkL_length _ _ _ _
theorem int_cell {w : World} {A : Option Addr} {n : Nat} {l : List Int} (h : Kd.C kI w A n l) (i : Nat) (hi : i < n) : ∃ b off, A = some ⟨b, off, none⟩ ∧ b < w.heap.size ∧ w.cell? ⟨b, off + i, none⟩ = some (.int .i64 (l.getD i 0)) := by
  obtain ⟨b, off, cs, rfl, hb, hl, hk, hc⟩ := row_at h (0 : Int) i hi (Nat.succ_pos _)
  have hk' : cs = [.int .i64 (l.getD i 0)] := hk
  subst hk'
  have := hc 0 _ rfl
  rw [add_gg] at this
  refine ⟨b, off, rfl, hb, ?_⟩
  have e : off + i * kI.sz + 0 = off + i := by show off + i * 1 + 0 = _; omega
  rw [e] at this
  exact this
set_option maxHeartbeats 1000000 in
theorem eqIntS_calls (A0 : Option Addr) (c0 : Nat) (A1 : Option Addr) (c1 : Nat) (xs : List Int) (w : World) (hr0 : Kd.C kI w A0 xs.length xs) (hr1 : Kd.C kI w A1 xs.length xs) :
    Calls Try.prog 30 #[.slice A0 xs.length c0, .slice A1 xs.length c1] w fun e w' => e = .returned (.bool true) ∧ Below w.heap.size w w' := by
  have hbig : xs.length ≤ 9223372036854775807 := hr0.2.1
  refine calls_of_run (fn := Try.f30) (n := 26) Try.func30 rfl Try.ntmps30 (Nat.le_of_ble_eq_true rfl) ?_
  refine Run.seq (Run.regionL [0] rfl ?_)
  refine WO.v 4 rfl rfl (r_assignB rfl rfl) ?_
  refine WO.done (Run.seq (Run.seq (Run.regionL [0, 1, 2, 3, 4] rfl ?_)))
  refine WO.v 6 rfl rfl (r_moveL rfl rfl) ?_
  refine WO.v 7 rfl rfl (r_len (e := 3) rfl rfl Try.underlying41) ?_
  refine WO.v 8 rfl rfl (r_moveL rfl rfl) ?_
  refine WO.v 9 rfl rfl (r_len (e := 3) rfl rfl Try.underlying41) ?_
  refine WO.v 10 rfl rfl (r_neq rfl rfl rfl (decide_eq_false (fun h => h rfl))) ?_
  refine WO.done (Run.condF rfl (Run.skip (Run.seq (Run.seq (Run.regionL [0] rfl ?_)))))
  refine WO.v 5 rfl rfl (r_assignI rfl rfl) ?_
  refine WO.done (Run.block ?_)
  refine Run.loopInv (fun m τ wr => ∃ (i : Nat), i + m = xs.length ∧ τ 0 = .slice A0 xs.length c0 ∧ τ 1 = .slice A1 xs.length c1 ∧ τ 5 = .int .i64 i ∧ Below w.heap.size w wr) xs.length ⟨0, by omega, rfl, rfl, rfl, Below.refl _ _⟩ ?_
  rintro m τ wr ih ⟨i, hm, h0, h1, h5, hb⟩
  refine Run.seq (Run.seq (Run.regionL [0, 1, 2, 3] rfl ?_))
  refine WO.v 11 rfl rfl (r_moveI rfl h5) ?_
  refine WO.v 12 rfl rfl (r_moveL rfl h0) ?_
  refine WO.v 13 rfl rfl (r_len (e := 3) rfl rfl Try.underlying41) ?_
  refine WO.v 14 rfl rfl (r_lss rfl rfl rfl rfl) ?_
  refine WO.done (Run.test rfl (fun hq => ?_) (fun hq => ?_))
  · have hi : i < xs.length := by omega
    obtain ⟨b0, o0, rfl, hl0, hc0⟩ := int_cell hr0 i hi
    obtain ⟨b1, o1, rfl, hl1, hc1⟩ := int_cell hr1 i hi
    refine Run.skip (Run.seq (Run.block (Run.seq ?_)))
    refine Run.quiet (fun W => Below w.heap.size w W) (by kernel_rfl) (by kernel_rfl) (hb.trans ⟨rfl, rfl, rfl, Nat.le_refl _, fun _ _ => rfl⟩) _ rfl ?_
    refine WQ.v 17 rfl (fun W hW => r_moveL rfl h0) ?_
    refine WQ.v 18 rfl (fun W hW => r_moveI rfl h5) ?_
    refine WQ.v 19 rfl (fun W hW => r_indexAddr rfl rfl rfl Try.underlying41 Try.sizeOf3 (by omega) hq (q := o0 + i) (by rw [Int.toNat_natCast, Nat.mul_one])) ?_
    refine WQ.v 20 rfl (fun W hW => r_load rfl rfl Try.isAgg3 ((hW.cell (p := ⟨b0, o0 + i, none⟩) hl0).trans hc0)) ?_
    refine WQ.v 21 rfl (fun W hW => r_moveL rfl h1) ?_
    refine WQ.v 22 rfl (fun W hW => r_moveI rfl h5) ?_
    refine WQ.v 23 rfl (fun W hW => r_indexAddr rfl rfl rfl Try.underlying41 Try.sizeOf3 (by omega) hq (q := o1 + i) (by rw [Int.toNat_natCast, Nat.mul_one])) ?_
    refine WQ.v 24 rfl (fun W hW => r_load rfl rfl Try.isAgg3 ((hW.cell (p := ⟨b1, o1 + i, none⟩) hl1).trans hc1)) ?_
    refine WQ.v 25 rfl (fun W hW => r_neq rfl rfl rfl (decide_eq_false (fun h => h rfl))) ?_
    refine WQ.done (fun w2 hb2 => ?_)
    refine Run.condF rfl (Run.skip (Run.blockEnd (Run.regionL [0, 1, 2] rfl ?_)))
    refine WO.v 15 rfl rfl (r_moveI rfl h5) ?_
    refine WO.v 16 rfl rfl (r_add rfl rfl rfl (c := (i : Int) + 1) (wrap_in (by omega) (by omega))) ?_
    refine WO.v 5 rfl rfl (r_assignI rfl rfl) ?_
    exact WO.done (ih (m - 1) _ _ (by omega) ⟨i + 1, by omega, h0, h1, rfl, hb2⟩)
  · refine Run.exit rfl (Run.seq (Run.regionL [0] rfl ?_))
    refine WO.v 4 rfl rfl (r_assignB rfl rfl) ?_
    exact WO.done (Run.ret1 (v1 := .bool true) Try.func30 Try.results30 rfl ⟨rfl, hb⟩)
set_option maxHeartbeats 1000000 in
theorem markIntS_tri (A : Option Addr) (c : Nat) (xs : List Int) (k : Int) (w : World) (h0k : 0 ≤ k) (hk : k + xs.length ≤ 4611686018427387904) :
    Tri Try.prog 31 #[.slice A xs.length c, .int .i64 k] w [Rw oI 3 (.slice A xs.length c) xs] fun e LQ => e = .returned (.int .i64 (k + xs.length)) ∧ LQ = [Rw oI 3 (.slice A xs.length c) (mkIs xs k)] := by
  refine tri_of_run (fn := Try.f31) (n := 19) Try.func31 rfl Try.ntmps31 (Nat.le_of_ble_eq_true rfl) fun S H => ?_
  have hbig : xs.length ≤ 9223372036854775807 := (H.rd p0).2.2.2.1
  refine Run.seq (Run.regionL [0] rfl ?_)
  refine WO.v 4 rfl rfl (r_assignI rfl rfl) ?_
  refine WO.done (Run.seq (Run.seq (Run.regionL [0] rfl ?_)))
  refine WO.v 5 rfl rfl (r_assignI rfl rfl) ?_
  refine WO.done (Run.block ?_)
  refine Run.loopInv (fun m τ wr => ∃ (i : Nat) (ys : List Int) (kk : Int), i + m = xs.length ∧ ys = mkL mkI cnI (xs.take i) k ++ xs.drop i ∧ kk = k + i ∧ τ 0 = .slice A ys.length c ∧ τ 1 = .int .i64 kk ∧ τ 5 = .int .i64 i ∧ St w S [Rw oI 3 (.slice A ys.length c) ys] wr) xs.length ⟨0, xs, k, by omega, by simp [mkL], by simp, rfl, rfl, rfl, H⟩ ?_
  clear H
  rintro m τ wr ih ⟨i, ys, kk, hm, hys, hkk, h0, h1, h5, H⟩
  have hyl : ys.length = xs.length := by rw [hys]; exact mkL_mid _ _ xs k i
  refine Run.seq (Run.seq (Run.regionL [0, 1, 2, 3] rfl ?_))
  refine WO.v 6 rfl rfl (r_moveI rfl h5) ?_
  refine WO.v 7 rfl rfl (r_moveL rfl h0) ?_
  refine WO.v 8 rfl rfl (r_len (e := 3) rfl rfl Try.underlying41) ?_
  refine WO.v 9 rfl rfl (r_lss rfl rfl rfl rfl) ?_
  refine WO.done (Run.test rfl (fun hq => ?_) (fun hq => ?_))
  · have hi : i < xs.length := by omega
    have hat : ys[i]? = some (xs.getD i 0) := by rw [hys]; exact mkL_at _ _ 0 xs k i hi
    have hsum : sumOf cnI (xs.take i) = i := by rw [cnI_sum, List.length_take]; omega
    have hstep : ys.set i kk = mkL mkI cnI (xs.take (i + 1)) k ++ xs.drop (i + 1) := by
      have := mkL_step mkI cnI 0 xs k i hi
      rw [hsum] at this
      rw [hys, hkk]
      exact this
    have hyi : i < ys.length := by omega
    obtain ⟨g, rfl, _⟩ := H.lies p0 (by omega)
    refine Run.skip (Run.seq (Run.block (Run.seq (Run.regionL [0, 1, 2, 3, 4] rfl ?_))))
    refine WO.v 12 rfl rfl (r_moveL rfl h0) ?_
    refine WO.v 13 rfl rfl (r_moveI rfl h5) ?_
    refine WO.v 14 rfl rfl (r_moveI rfl h1) ?_
    refine WO.v 15 rfl rfl (r_indexAddr rfl rfl rfl Try.underlying41 Try.sizeOf3 (by omega) (by omega) (q := 0 + i) (by rw [Int.toNat_natCast, Nat.mul_one])) ?_
    refine WO.scell (j := i) (r := 0) (x1 := kk) rfl rfl rfl rfl rfl rfl Try.sizeOf3 H p0 hat (by show 0 + i = i * 1 + 0; omega) (Nat.succ_pos _) (fun _ _ _ h => by have h' : _ = _ := h; rw [h']; rfl) ?_
    intro wS HS
    have H1 : St w S [Rw oI 3 (.slice (some ⟨g, 0, none⟩) (ys.set i kk).length c) (ys.set i kk)] wS := by rw [List.length_set]; exact HS
    refine WO.done (Run.regionL [0, 1, 2] rfl ?_)
    refine WO.v 16 rfl rfl (r_moveI rfl h1) ?_
    refine WO.v 17 rfl rfl (r_add rfl rfl rfl (c := kk + 1) (wrap_in (by omega) (by omega))) ?_
    refine WO.v 1 rfl rfl (r_assignI rfl rfl) ?_
    refine WO.done (Run.blockEnd (Run.regionL [0, 1, 2] rfl ?_))
    refine WO.v 10 rfl rfl (r_moveI rfl h5) ?_
    refine WO.v 11 rfl rfl (r_add rfl rfl rfl (c := (i : Int) + 1) (wrap_in (by omega) (by omega))) ?_
    refine WO.v 5 rfl rfl (r_assignI rfl rfl) ?_
    exact WO.done (ih (m - 1) _ _ (by omega) ⟨i + 1, _, kk + 1, by omega, hstep, by omega, by rw [List.length_set]; exact h0, rfl, rfl, H1⟩)
  · have hye : ys = mkIs xs k := by rw [hys]; exact mkL_end _ _ xs k i (by omega)
    have hke : kk = k + xs.length := by omega
    subst hke
    rw [hyl, hye] at H
    refine Run.exit rfl (Run.seq (Run.regionL [0, 1] rfl ?_))
    refine WO.v 18 rfl rfl (r_moveI rfl h1) ?_
    refine WO.v 4 rfl rfl (r_assignI rfl rfl) ?_
    exact WO.done (Run.ret1 Try.func31 Try.results31 rfl ⟨_, ⟨rfl, rfl⟩, H⟩)
set_option maxHeartbeats 1000000 in
theorem heldIntS_calls (A : Option Addr) (c : Nat) (xs : List Int) (k : Int) (w : World) (h0k : 0 ≤ k) (hk : k + xs.length ≤ 4611686018427387904) (hr : Kd.C kI w A xs.length (mkIs xs k)) :
    Calls Try.prog 32 #[.slice A xs.length c, .int .i64 k] w fun e w' => e = .returned (.int .i64 (k + xs.length)) ∧ Below w.heap.size w w' := by
  have hbig : xs.length ≤ 9223372036854775807 := hr.2.1
  refine calls_of_run (fn := Try.f32) (n := 21) Try.func32 rfl Try.ntmps32 (Nat.le_of_ble_eq_true rfl) ?_
  refine Run.seq (Run.regionL [0] rfl ?_)
  refine WO.v 4 rfl rfl (r_assignI rfl rfl) ?_
  refine WO.done (Run.seq (Run.seq (Run.regionL [0] rfl ?_)))
  refine WO.v 5 rfl rfl (r_assignI rfl rfl) ?_
  refine WO.done (Run.block ?_)
  refine Run.loopInv (fun m τ wr => ∃ (i : Nat) (kk : Int), i + m = xs.length ∧ kk = k + i ∧ τ 0 = .slice A xs.length c ∧ τ 1 = .int .i64 kk ∧ τ 5 = .int .i64 i ∧ Below w.heap.size w wr) xs.length ⟨0, k, by omega, by simp, rfl, rfl, rfl, Below.refl _ _⟩ ?_
  rintro m τ wr ih ⟨i, kk, hm, hkk, h0, h1, h5, hb⟩
  refine Run.seq (Run.seq (Run.regionL [0, 1, 2, 3] rfl ?_))
  refine WO.v 6 rfl rfl (r_moveI rfl h5) ?_
  refine WO.v 7 rfl rfl (r_moveL rfl h0) ?_
  refine WO.v 8 rfl rfl (r_len (e := 3) rfl rfl Try.underlying41) ?_
  refine WO.v 9 rfl rfl (r_lss rfl rfl rfl rfl) ?_
  refine WO.done (Run.test rfl (fun hq => ?_) (fun hq => ?_))
  · have hi : i < xs.length := by omega
    obtain ⟨b, off, rfl, hbl, hc⟩ := int_cell (Kd.C_below hr hb) i hi
    have hsum : sumOf cnI (xs.take i) = i := by rw [cnI_sum, List.length_take]; omega
    rw [show (mkIs xs k).getD i 0 = kk by unfold mkIs; rw [mkL_getD _ _ 0 xs k i hi, hsum, hkk]; rfl] at hc
    refine Run.skip (Run.seq (Run.block (Run.seq (Run.seq (Run.regionL [0, 1, 2, 3, 4, 5] rfl ?_)))))
    refine WO.v 12 rfl rfl (r_moveL rfl h0) ?_
    refine WO.v 13 rfl rfl (r_moveI rfl h5) ?_
    refine WO.v 14 rfl rfl (r_indexAddr rfl rfl rfl Try.underlying41 Try.sizeOf3 (by omega) hq (q := off + i) (by rw [Int.toNat_natCast, Nat.mul_one])) ?_
    refine WO.v 15 rfl rfl (r_load rfl rfl Try.isAgg3 hc) ?_
    refine WO.v 16 rfl rfl (r_moveI rfl h1) ?_
    refine WO.v 17 rfl rfl (r_neq rfl rfl rfl (decide_eq_false (fun h => h rfl))) ?_
    refine WO.done (Run.condF rfl (Run.skip (Run.regionL [0, 1, 2] rfl ?_)))
    refine WO.v 18 rfl rfl (r_moveI rfl h1) ?_
    refine WO.v 19 rfl rfl (r_add rfl rfl rfl (c := kk + 1) (wrap_in (by omega) (by omega))) ?_
    refine WO.v 1 rfl rfl (r_assignI rfl rfl) ?_
    refine WO.done (Run.blockEnd (Run.regionL [0, 1, 2] rfl ?_))
    refine WO.v 10 rfl rfl (r_moveI rfl h5) ?_
    refine WO.v 11 rfl rfl (r_add rfl rfl rfl (c := (i : Int) + 1) (wrap_in (by omega) (by omega))) ?_
    refine WO.v 5 rfl rfl (r_assignI rfl rfl) ?_
    exact WO.done (ih (m - 1) _ _ (by omega) ⟨i + 1, kk + 1, by omega, by omega, h0, rfl, rfl, hb⟩)
  · have hke : kk = k + xs.length := by omega
    subst hke
    refine Run.exit rfl (Run.seq (Run.regionL [0, 1] rfl ?_))
    refine WO.v 20 rfl rfl (r_moveI rfl h1) ?_
    refine WO.v 4 rfl rfl (r_assignI rfl rfl) ?_
    exact WO.done (Run.ret1 Try.func32 Try.results32 rfl ⟨rfl, hb⟩)
end Go.Proofs.Ytojpimpfpjhflaa.Wh
namespace Go.Proofs.Ytojpimpfpjhflaa.Wh
open Go.RowKit Go.Proofs.Ytojpimpfpjhflaa.Fw Go.Proofs.YtojpimpfpjhflaaW.PrintWords Go.Proofs.Ytojpimpfpjhflaa.PFnExactWheelOK
set_option linter.unusedVariables false
set_option linter.unusedSimpArgs false
/-- The timers that stay, and the numbers of those that go. -/
def stayT (now : Int) (ts : List S57) : List S57 := ts.filter fun x => decide (x.f1 ≠ now + 1)
def goneT (now : Int) (ts : List S57) : List Int := (ts.filter fun x => decide (x.f1 = now + 1)).map (·.f0)
/-- What WheelTick says. -/
def TickSaid (now order : Int) (lv : List (List (List S57))) (a b : Int) (lv' : List (List (List S57))) (fs : List Int) (code : Int) : Prop :=
  (¬ Good now order lv ∧ a = 0 ∧ b = 0 ∧ lv' = [] ∧ fs = [] ∧ code = 1) ∨ (Good now order lv ∧ now = 1000000 ∧ a = 0 ∧ b = 0 ∧ lv' = [] ∧ fs = [] ∧ code = 4) ∨
    (Good now order lv ∧ now ≠ 1000000 ∧ a = now + 1 ∧ b = order ∧ (∃ T : List S57, T.Perm lv.flatten.flatten ∧ T.Pairwise (fun a b => a.f2 ≤ b.f2) ∧ lv' = deal (now + 1) (stayT now T) ∧ fs = goneT now T) ∧ code = 0)
theorem strict_of {now order : Int} {lv : List (List (List S57))} (hG : Good now order lv) {T : List S57} (hp : T.Perm lv.flatten.flatten) (hs : T.Pairwise (fun a b => a.f2 ≤ b.f2)) : T.Pairwise (fun a b => a.f2 < b.f2) := by
  have hnd : (T.map (·.f2)).Nodup := (hp.map (·.f2)).nodup_iff.2 hG.orders
  exact hs.imp₂ (fun a b h1 h2 => by omega) (List.pairwise_map.1 hnd)
theorem TickSaid.uniq {now order : Int} {lv : List (List (List S57))} {a b a' b' d d' : Int} {l l' : List (List (List S57))} {f f' : List Int} (h : TickSaid now order lv a b l f d) (h' : TickSaid now order lv a' b' l' f' d') : a = a' ∧ b = b' ∧ l = l' ∧ f = f' ∧ d = d' := by
  rcases h with ⟨g, rfl, rfl, rfl, rfl, rfl⟩ | ⟨g, hn, rfl, rfl, rfl, rfl, rfl⟩ | ⟨g, hn, rfl, rfl, ⟨T, hp, hs, rfl, rfl⟩, rfl⟩ <;> rcases h' with ⟨g', rfl, rfl, rfl, rfl, rfl⟩ | ⟨g', hn', rfl, rfl, rfl, rfl, rfl⟩ | ⟨g', hn', rfl, rfl, ⟨T', hp', hs', rfl, rfl⟩, rfl⟩
  all_goals first
    | exact ⟨rfl, rfl, rfl, rfl, rfl⟩
    | exact absurd g' g
    | exact absurd g g'
    | exact absurd hn hn'
    | exact absurd hn' hn
    | skip
  obtain rfl := sorted_one T T' (hp.trans hp'.symm) (strict_of g hp hs) (strict_of g hp' hs')
  exact ⟨rfl, rfl, rfl, rfl, rfl⟩
theorem deal_few (now : Int) (ts : List S57) : (deal now ts).flatten.flatten.length ≤ 24 * ts.length := by
  rw [flatten2]
  have h1 : ∀ (L : List (List (List S57))) (n : Nat), (∀ x ∈ L, x.flatten.length ≤ n) → (L.map List.flatten).flatten.length ≤ L.length * n := by
    intro L n h
    induction L with
    | nil => simp
    | cons a L ih =>
      rw [List.map_cons, List.flatten_cons, List.length_append, List.length_cons, Nat.add_mul]
      have := h a List.mem_cons_self
      have := ih fun x hx => h x (List.mem_cons_of_mem _ hx)
      omega
  have h2 : ∀ (L : List (List S57)) (n : Nat), (∀ x ∈ L, x.length ≤ n) → L.flatten.length ≤ L.length * n := by
    intro L n h
    induction L with
    | nil => simp
    | cons a L ih =>
      rw [List.flatten_cons, List.length_append, List.length_cons, Nat.add_mul]
      have := h a List.mem_cons_self
      have := ih fun x hx => h x (List.mem_cons_of_mem _ hx)
      omega
  have := h1 (deal now ts) (8 * ts.length) fun x hx => by
    unfold deal at hx
    obtain ⟨l, _, rfl⟩ := List.mem_map.1 hx
    have := h2 ((List.range 8).map fun s => slotF now ts l s) ts.length fun y hy => by
      obtain ⟨s, _, rfl⟩ := List.mem_map.1 hy
      exact slotF_le _ _ _ _
    simpa using this
  rw [deal_len] at this
  omega
theorem TickSaid.few {now order : Int} {lv : List (List (List S57))} {a b d : Int} {l : List (List (List S57))} {f : List Int} (h : TickSaid now order lv a b l f d) : l.flatten.flatten.length ≤ 2000 ∧ f.length ≤ 2000 := by
  rcases h with ⟨g, rfl, rfl, rfl, rfl, rfl⟩ | ⟨g, hn, rfl, rfl, rfl, rfl, rfl⟩ | ⟨g, hn, rfl, rfl, ⟨T, hp, hs, rfl, rfl⟩, rfl⟩
  · simp
  · simp
  · have h1 := deal_few (now + 1) (stayT now T)
    have h2 : (stayT now T).length ≤ T.length := List.length_filter_le _ _
    have h3 : T.length ≤ 60 := by rw [hp.length_eq]; exact g.few
    refine ⟨by omega, ?_⟩
    unfold goneT
    rw [List.length_map]
    exact Nat.le_trans (List.length_filter_le _ _) (by omega)
def TickQ (now order : Int) (lv : List (List (List S57))) (e : Ending) (LQ : List Asn) : Prop :=
  ∃ (a b : Int) (lv' : List (List (List S57))) (fs : List Int) (code : Int) (A' : Option Addr) (c' : Nat) (B' : Option Addr) (k' : Nat), e = .returned (.tuple #[.agg #[.int .i64 a, .int .i64 b, .slice A' lv'.length c'], .slice B' fs.length k', .int .i64 code]) ∧
    LQ = [Rw o54 54 (.slice A' lv'.length c') lv', Rw (Ow.int .i64) 3 (.slice B' fs.length k') fs] ∧ TickSaid now order lv a b lv' fs code
end Go.Proofs.Ytojpimpfpjhflaa.Wh
namespace Go.Proofs.Ytojpimpfpjhflaa.Wh
open Go.RowKit Go.Proofs.Ytojpimpfpjhflaa.Fw Go.Proofs.YtojpimpfpjhflaaW.PrintWords Go.Proofs.Ytojpimpfpjhflaa.PFnExactWheelOK
set_option linter.unusedVariables false
set_option linter.unusedSimpArgs false
theorem lit41 (a : Int) (w : World) : (Instr.buildSlice 41 1 #[(0, .int .i64 a)]).run Try.prog w = .ok (.slice (some ⟨w.heap.size, 0, none⟩) [a].length [a].length) (w.alloc (.cells ([[.int .i64 a]] : List (List Value)).flatten.toArray 3)) := by kernel_rfl
theorem lit41n (w : World) : (Instr.buildSlice 41 0 #[]).run Try.prog w = .ok (.slice (some ⟨w.heap.size, 0, none⟩) ([] : List Int).length ([] : List Int).length) (w.alloc (.cells ([] : List (List Value)).flatten.toArray 3)) := by kernel_rfl
theorem info3i : (Try.prog.info? 3).map (fun i => (i.zero, i.size, i.bytes)) = some (some (.int .i64 0), 1, 8) := by kernel_rfl
/-- A block whose head is what stays, and whose tail is what is still to be read. -/
def TI (cs : List Value) (c : Nat) (ks rest : List S57) (i : Nat) : Prop := cs.length = c * 3 ∧ cs.take (ks.length * 3) = flatT ks ∧ (cs.drop (i * 3)).take (rest.length * 3) = flatT rest ∧ ks.length ≤ i ∧ i + rest.length ≤ c
theorem TI.start {cs : List Value} {c : Nat} {ts : List S57} (h1 : cs.length = c * 3) (h2 : ts.length ≤ c) (h3 : cs.take (ts.length * 3) = flatT ts) : TI cs c [] ts 0 := ⟨h1, by simp [flatT], by simpa using h3, Nat.le_refl _, by omega⟩
theorem TI.skip {cs : List Value} {c : Nat} {ks rest : List S57} {x : S57} {i : Nat} (h : TI cs c ks (x :: rest) i) : TI cs c ks rest (i + 1) := by
  obtain ⟨h1, h2, h3, h4, h5⟩ := h
  simp only [List.length_cons] at h3 h5
  refine ⟨h1, h2, ?_, by omega, by omega⟩
  have e : flatT (x :: rest) = encT x ++ flatT rest := rfl
  have h3' := congrArg (List.drop 3) h3
  rw [e, List.drop_append_of_le_length (Nat.le_refl 3), List.drop_take, List.drop_drop] at h3'
  have e2 : (rest.length + 1) * 3 - 3 = rest.length * 3 := by omega
  have e3 : i * 3 + 3 = (i + 1) * 3 := by omega
  rw [e2, e3] at h3'
  exact h3'
theorem TI.head {cs : List Value} {c : Nat} {ks rest : List S57} {x : S57} {i : Nat} (h : TI cs c ks (x :: rest) i) (j : Nat) (u : Value) (hj : (encT x)[j]? = some u) : ((cs.drop (i * 3)).take ((rest.length + 1) * 3))[j]? = some u := by
  obtain ⟨h1, h2, h3, h4, h5⟩ := h
  simp only [List.length_cons] at h3
  rw [h3]
  have hl : j < (encT x).length := (List.getElem?_eq_some_iff.1 hj).1
  have e : flatT (x :: rest) = encT x ++ flatT rest := rfl
  rw [e, List.getElem?_append_left hl]
  exact hj
theorem TI.keep {cs : List Value} {c : Nat} {ks rest : List S57} {x : S57} {i : Nat} (h : TI cs c ks (x :: rest) i) : TI (cs.take (ks.length * 3) ++ encT x ++ cs.drop ((ks.length + 1) * 3)) c (ks ++ [x]) rest (i + 1) := by
  have hs := h.skip
  obtain ⟨h1, h2, h3, h4, h5⟩ := h
  obtain ⟨_, _, s3, _, _⟩ := hs
  simp only [List.length_cons] at h5
  have hk : ks.length + 1 ≤ c := by omega
  have hl : (cs.take (ks.length * 3)).length = ks.length * 3 := by rw [List.length_take]; omega
  have hl2 : (cs.take (ks.length * 3) ++ encT x).length = (ks.length + 1) * 3 := by rw [List.length_append, hl]; show _ + 3 = _; omega
  refine ⟨?_, ?_, ?_, by simp; omega, by omega⟩
  · rw [List.length_append, hl2, List.length_drop, h1]; omega
  · rw [List.length_append, List.length_singleton, List.take_append_of_le_length (Nat.le_of_eq hl2.symm), List.take_of_length_le (Nat.le_of_eq hl2), flatT_append, h2]
    rfl
  · have e : (cs.take (ks.length * 3) ++ encT x ++ cs.drop ((ks.length + 1) * 3)).drop ((i + 1) * 3) = cs.drop ((i + 1) * 3) := by
      rw [List.drop_append, hl2, List.drop_of_length_le (by rw [hl2]; omega), List.nil_append, List.drop_drop]
      congr 1
      omega
    rw [e]
    exact s3
set_option maxHeartbeats 1000000 in
set_option maxRecDepth 20000 in
theorem tick_tri (gt : Nat) (now order : Int) (A : Option Addr) (c : Nat) (ts : List S57) (AF : Option Addr) (cF : Nat) (w : World) (hbig : ts.length ≤ 1048576) (hn0 : 0 ≤ now) (hn1 : now ≤ 1000000) :
    Tri Try.prog 46 #[.pointer (some ⟨gt, 0, none⟩), .slice AF ([] : List Int).length cF] w [Bk gt [.int .i64 now, .int .i64 order, .slice A ts.length c] 69, RT A c ts, Rw oI 3 (.slice AF ([] : List Int).length cF) []] fun e LQ => ∃ AF' cF', e = .returned (.slice AF' (goneT now ts).length cF') ∧
      LQ = [Bk gt [.int .i64 (now + 1), .int .i64 order, .slice A (stayT now ts).length c] 69, RT A c (stayT now ts), Rw oI 3 (.slice AF' (goneT now ts).length cF') (goneT now ts)] := by
  refine tri_of_run (fn := Try.f46) (n := 51) Try.func46 rfl Try.ntmps46 (Nat.le_of_ble_eq_true rfl) fun S H => ?_
  refine Run.seq (Run.regionL [0] rfl ?_)
  refine WO.v 4 rfl rfl (r_assignL rfl rfl) ?_
  refine WO.done (Run.seq (Run.regionL [0, 1, 2, 3, 4, 5, 6, 7] rfl ?_))
  refine WO.v 8 rfl rfl (r_moveP rfl rfl) ?_
  refine WO.v 9 rfl rfl (r_nilCheck rfl rfl) ?_
  refine WO.v 10 rfl rfl (r_fieldAddr rfl rfl Try.underlying69 rfl Try.sizeOf3 (q := 0 + 0) rfl) ?_
  refine WO.v 11 rfl rfl (r_load rfl rfl Try.isAgg3 (H.cell p0 rfl)) ?_
  refine WO.v 12 rfl rfl (r_add rfl rfl rfl (c := now + 1) (wrap_in (by omega) (by omega))) ?_
  refine WO.v 13 rfl rfl (r_nilCheck rfl rfl) ?_
  refine WO.v 14 rfl rfl (r_fieldAddr rfl rfl Try.underlying69 rfl Try.sizeOf3 (q := 0 + 0) rfl) ?_
  refine WO.sstore rfl rfl rfl rfl rfl rfl Try.sizeOf3 H p0 .z ?_
  intro w1 H1
  refine WO.done (Run.seq (Run.regionL [0, 1, 2, 3, 4, 5] rfl ?_))
  refine WO.v 15 rfl rfl (r_moveP rfl rfl) ?_
  refine WO.v 16 rfl rfl (r_nilCheck rfl rfl) ?_
  refine WO.v 17 rfl rfl (r_fieldAddr rfl rfl Try.underlying69 rfl Try.sizeOf55 (q := 0 + 2) rfl) ?_
  refine WO.v 18 rfl rfl (r_load rfl rfl Try.isAgg55 (H1.cell p0 rfl)) ?_
  refine WO.v 19 rfl rfl (r_sliceHigh (h := 0) rfl rfl rfl Try.underlying55 Try.sizeOf57 (Nat.zero_le _)) ?_
  refine WO.v 5 rfl rfl (r_assignL rfl rfl) ?_
  refine WO.done (Run.seq (Run.seq (Run.regionL [0, 1, 2, 3, 4, 5] rfl ?_)))
  refine WO.v 20 rfl rfl (r_moveP rfl rfl) ?_
  refine WO.v 21 rfl rfl (r_nilCheck rfl rfl) ?_
  refine WO.v 22 rfl rfl (r_fieldAddr rfl rfl Try.underlying69 rfl Try.sizeOf55 (q := 0 + 2) rfl) ?_
  refine WO.v 23 rfl rfl (r_load rfl rfl Try.isAgg55 (H1.cell p0 rfl)) ?_
  refine WO.v 24 rfl rfl (r_len (e := 57) rfl rfl Try.underlying55) ?_
  refine WO.v 25 rfl rfl (r_moveI rfl rfl) ?_
  refine WO.done (Run.block ?_)
  rcases Nat.eq_zero_or_pos ts.length with h0 | hpos
  · obtain rfl : ts = [] := List.eq_nil_of_length_eq_zero h0
    refine Run.loopInv (fun m τ wr => τ 0 = .pointer (some ⟨gt, 0, none⟩) ∧ τ 1 = .slice AF ([] : List Int).length cF ∧ τ 5 = .slice A 0 c ∧ τ 24 = .int .i64 0 ∧ τ 25 = .int .i64 0 ∧ wr = w1) 0 ⟨rfl, rfl, rfl, rfl, rfl, rfl⟩ ?_
    rintro m τ wr ih ⟨h0, h1, h5, h24, h25, rfl⟩
    refine Run.seq (Run.regionL [0] rfl ?_)
    refine WO.v 26 rfl rfl (r_lss rfl h25 h24 rfl) ?_
    refine WO.done (Run.seq (Run.condF rfl (Run.exit rfl (Run.seq (Run.regionL [0, 1, 2, 3, 4] rfl ?_)))))
    refine WO.v 46 rfl rfl (r_moveP rfl h0) ?_
    refine WO.v 47 rfl rfl (r_moveL rfl h5) ?_
    refine WO.v 48 rfl rfl (r_nilCheck rfl rfl) ?_
    refine WO.v 49 rfl rfl (r_fieldAddr rfl rfl Try.underlying69 rfl Try.sizeOf55 (q := 0 + 2) rfl) ?_
    refine WO.sstore rfl rfl rfl rfl rfl rfl Try.sizeOf55 H1 p0 (.s (.s .z)) ?_
    intro wS HS
    refine WO.done (Run.seq (Run.regionL [0, 1] rfl ?_))
    refine WO.v 50 rfl rfl (r_moveL rfl h1) ?_
    refine WO.v 4 rfl rfl (r_assignL rfl rfl) ?_
    exact WO.done (Run.ret1 (v1 := .slice AF ([] : List Int).length cF) Try.func46 Try.results46 rfl ⟨_, ⟨AF, cF, rfl, rfl⟩, HS⟩)
  · obtain ⟨g, cs, rfl, H2, hcs, hnc, hcm, hcells⟩ := H1.rawT p1 hpos
    have hTI := TI.start hcs hnc hcells
    refine Run.loopInv (fun m τ wr => ∃ (i : Nat) (ks rest : List S57) (cs : List Value) (fs : List Int) (AF : Option Addr) (cF : Nat), i + m = ts.length ∧ rest = ts.drop i ∧ ks = (ts.take i).filter (fun x => decide (x.f1 ≠ now + 1)) ∧ fs = ((ts.take i).filter (fun x => decide (x.f1 = now + 1))).map (·.f0) ∧ TI cs c ks rest i ∧ τ 0 = .pointer (some ⟨gt, 0, none⟩) ∧ τ 1 = .slice AF fs.length cF ∧ τ 5 = .slice (some ⟨g, 0, none⟩) ks.length c ∧ τ 23 = .slice (some ⟨g, 0, none⟩) ts.length c ∧ τ 24 = .int .i64 ts.length ∧ τ 25 = .int .i64 i ∧
        St w S [Bk gt [.int .i64 (now + 1), .int .i64 order, .slice (some ⟨g, 0, none⟩) ts.length c] 69, Bk g cs 57, Rw oI 3 (.slice AF fs.length cF) fs] wr) ts.length ⟨0, [], ts, cs, [], AF, cF, by omega, rfl, rfl, rfl, hTI, rfl, rfl, rfl, rfl, rfl, rfl, H2⟩ ?_
    clear H H1 H2 hTI hcs hnc hcells cs
    rintro m τ wr ih ⟨i, ks, rest, cs, fs, AF, cF, hm, hrest, hks, hfs, hTI, h0, h1, h5, h23, h24, h25, H⟩
    have hfl : fs.length ≤ ts.length := by rw [hfs, List.length_map]; exact Nat.le_trans (List.length_filter_le _ _) (by rw [List.length_take]; omega)
    have hkl : ks.length ≤ ts.length := by rw [hks]; exact Nat.le_trans (List.length_filter_le _ _) (by rw [List.length_take]; omega)
    refine Run.seq (Run.regionL [0] rfl ?_)
    refine WO.v 26 rfl rfl (r_lss rfl h25 h24 rfl) ?_
    refine WO.done (Run.seq (Run.test rfl (fun hq => ?_) (fun hq => ?_)))
    · have hi : i < ts.length := by omega
      have hd := drop_getD ts i z57 hi
      have htk := take_snoc ts i hi
      generalize hx : ts.getD i z57 = x at hd htk
      rw [hd] at hrest
      subst hrest
      refine Run.skip (Run.seq (Run.block (Run.seq (Run.regionL [0, 1, 2, 3] rfl ?_))))
      refine WO.v 27 rfl rfl (r_indexAddr rfl h23 h25 Try.underlying55 Try.sizeOf57 (by omega) hq (q := i * 3) (by rw [Int.toNat_natCast, Nat.zero_add])) ?_
      refine WO.v 28 rfl rfl (r_loadK (vs := [.int .i64 x.f0, .int .i64 x.f1, .int .i64 x.f2]) rfl rfl Try.isAgg57 Try.sizeOf57 rfl (fun j u hj => H.part p1 j u (hTI.head j u hj))) ?_
      refine WO.salloc 7 (cs := [.int .i64 0, .int .i64 0, .int .i64 0]) rfl rfl rfl Try.zeroValue57 rfl H ?_
      intro g7 w3 H3
      refine WO.sstoreK (vs := [.int .i64 x.f0, .int .i64 x.f1, .int .i64 x.f2]) rfl rfl rfl rfl rfl rfl rfl Try.sizeOf57 rfl H3 p0 rfl ?_
      intro w4 H4
      refine WO.done (Run.seq (Run.quiet _ (by kernel_rfl) (by kernel_rfl) (H4.step ⟨rfl, rfl, rfl, Nat.le_refl _, fun _ _ => rfl⟩) _ rfl ?_))
      refine WQ.v 29 rfl (fun W hW => r_fieldAddr rfl rfl Try.underlying57 rfl Try.sizeOf3 (q := 0 + 1) rfl) ?_
      refine WQ.v 30 rfl (fun W hW => r_load rfl rfl Try.isAgg3 (hW.cell p0 rfl)) ?_
      refine WQ.v 31 rfl (fun W hW => r_moveP rfl h0) ?_
      refine WQ.v 32 rfl (fun W hW => r_nilCheck rfl rfl) ?_
      refine WQ.v 33 rfl (fun W hW => r_fieldAddr rfl rfl Try.underlying69 rfl Try.sizeOf3 (q := 0 + 0) rfl) ?_
      refine WQ.v 34 rfl (fun W hW => r_load rfl rfl Try.isAgg3 (hW.cell p1 rfl)) ?_
      by_cases he : x.f1 = now + 1
      · refine WQ.v 35 rfl (fun W hW => r_eql rfl rfl rfl (decide_eq_true he)) ?_
        refine WQ.done (fun w5 H5 => ?_)
        refine Run.condT rfl (Run.regionL [0, 1, 2, 3, 4, 5] rfl ?_)
        refine WO.v 36 rfl rfl (r_moveL rfl h1) ?_
        refine WO.v 37 rfl rfl (r_fieldAddr rfl rfl Try.underlying57 rfl Try.sizeOf3 (q := 0 + 0) rfl) ?_
        refine WO.v 38 rfl rfl (r_load rfl rfl Try.isAgg3 (H5.cell p0 rfl)) ?_
        refine WO.slit 39 (ow := oI) (pv := #[(0, .int .i64 x.f0)]) [x.f0] [[.int .i64 x.f0]] rfl rfl rfl rfl (fun w => lit41 x.f0 w) rfl (own_one_ rfl) (by show 1 ≤ 4096; decide) H5 ?_
        intro g6 w6 H6
        refine WO.sappend 40 rfl rfl rfl Try.underlying41 info3i rfl (Nat.succ_pos _) rfl rfl (flat_int _) H6 p4 (H6.rdC p0) (by simp only [List.length_cons, List.length_nil]; omega) (by simp only [List.length_cons, List.length_nil]; omega) ?_
        intro A3 c3 w7 H7
        refine WO.v 1 rfl rfl (r_assignL rfl rfl) ?_
        refine WO.done (Run.blockEnd (Run.regionL [0, 1] rfl ?_))
        refine WO.v 45 rfl rfl (r_add rfl h25 rfl (c := (i : Int) + 1) (wrap_in (by omega) (by omega))) ?_
        refine WO.v 25 rfl rfl (r_moveI rfl rfl) ?_
        exact WO.done (ih (m - 1) _ _ (by omega) ⟨i + 1, ks, ts.drop (i + 1), cs, _, A3, c3, by omega, rfl, by rw [htk, List.filter_append, hks, List.filter_cons, if_neg (by simp [he]), List.filter_nil, List.append_nil], by rw [htk, List.filter_append, List.map_append, ← hfs, List.filter_cons, if_pos (by simp [he])]; rfl, hTI.skip, h0, rfl, h5, h23, h24, rfl, H7.sel (.c q2 (.c q2 (.c q2 .n)))⟩)
      · refine WQ.v 35 rfl (fun W hW => r_eql rfl rfl rfl (decide_eq_false he)) ?_
        refine WQ.done (fun w5 H5 => ?_)
        refine Run.condF rfl (Run.regionL [0, 1, 2, 3, 4] rfl ?_)
        refine WO.v 41 rfl rfl (r_moveL rfl h5) ?_
        refine WO.v 42 rfl rfl (r_loadK (vs := [.int .i64 x.f0, .int .i64 x.f1, .int .i64 x.f2]) rfl rfl Try.isAgg57 Try.sizeOf57 rfl (H5.cells p0)) ?_
        refine WO.sblit 43 (q := 1) (pv := #[(0, .agg #[.int .i64 x.f0, .int .i64 x.f1, .int .i64 x.f2])]) [.int .i64 x.f0, .int .i64 x.f1, .int .i64 x.f2] rfl rfl rfl rfl (fun w => lit1 x w) H5 ?_
        intro g6 w6 H6
        have hroom : ks.length + 1 ≤ c := by have := hTI.2.2.2; simp only [List.length_cons] at this; omega
        obtain ⟨w7, hr7, H7⟩ := append_room (P := Try.prog) (t := 55) (ty := 55) (e := 57) (c2 := 1) (q := 1) (m := ks.length) (c := c) (B := some ⟨g6, 0, none⟩) (vs := [.int .i64 x.f0, .int .i64 x.f1, .int .i64 x.f2]) Try.underlying55 info57 H6 p3 rfl (fun b hb j u hj => by cases hb; exact H6.cells p0 j u hj) (fun h => by cases h) (by simp [Value.oneCell']) hroom hTI.1
        refine WO.v 44 rfl rfl (r_append rfl rfl rfl hr7) ?_
        refine WO.v 5 rfl rfl (r_assignL rfl rfl) ?_
        refine WO.done (Run.blockEnd (Run.regionL [0, 1] rfl ?_))
        refine WO.v 45 rfl rfl (r_add rfl h25 rfl (c := (i : Int) + 1) (wrap_in (by omega) (by omega))) ?_
        refine WO.v 25 rfl rfl (r_moveI rfl rfl) ?_
        exact WO.done (ih (m - 1) _ _ (by omega) ⟨i + 1, ks ++ [x], ts.drop (i + 1), _, fs, AF, cF, by omega, rfl, by rw [htk, List.filter_append, ← hks, List.filter_cons, if_pos (by simp [he])]; rfl, by rw [htk, List.filter_append, List.map_append, ← hfs, List.filter_cons, if_neg (by simp [he])]; simp, hTI.keep, h0, h1, by rw [List.length_append]; rfl, h23, h24, rfl, H7.sel (.c q2 (.c q2 (.c q2 .n)))⟩)
    · have hie : ts.length ≤ i := by omega
      rw [List.take_of_length_le hie] at hks hfs
      have hks' : ks = stayT now ts := hks
      have hfs' : fs = goneT now ts := hfs
      subst hks' hfs'
      have hu := H.unrawT (ts := stayT now ts) p1 hTI.1 (by have := hTI.2.2.2; omega) hcm hTI.2.1
      refine Run.exit rfl (Run.seq (Run.regionL [0, 1, 2, 3, 4] rfl ?_))
      refine WO.v 46 rfl rfl (r_moveP rfl h0) ?_
      refine WO.v 47 rfl rfl (r_moveL rfl h5) ?_
      refine WO.v 48 rfl rfl (r_nilCheck rfl rfl) ?_
      refine WO.v 49 rfl rfl (r_fieldAddr rfl rfl Try.underlying69 rfl Try.sizeOf55 (q := 0 + 2) rfl) ?_
      refine WO.sstore rfl rfl rfl rfl rfl rfl Try.sizeOf55 hu p0 (.s (.s .z)) ?_
      intro wS HS
      refine WO.done (Run.seq (Run.regionL [0, 1] rfl ?_))
      refine WO.v 50 rfl rfl (r_moveL rfl h1) ?_
      refine WO.v 4 rfl rfl (r_assignL rfl rfl) ?_
      exact WO.done (Run.ret1 (v1 := .slice AF (goneT now ts).length cF) Try.func46 Try.results46 rfl ⟨_, ⟨AF, cF, rfl, rfl⟩, HS⟩)
set_option maxHeartbeats 1000000 in
theorem implTick_tri (now order : Int) (A : Option Addr) (c : Nat) (lv : List (List (List S57))) (w : World) (hr : Kd.C (Kd.slice 55 (Kd.slice 57 k57)) w A lv.length lv) (hbig : lv.flatten.flatten.length ≤ 1048576) :
    Tri Try.prog 28 #[.agg #[.int .i64 now, .int .i64 order, .slice A lv.length c]] w [] (TickQ now order lv) := by
  refine tri_of_run0 (fn := Try.f28) (n := 24) Try.func28 rfl Try.ntmps28 (Nat.le_of_ble_eq_true rfl) fun H => ?_
  refine Run.seq (Run.regionL [0, 1, 2, 3] rfl ?_)
  refine WO.sbox 1 (cs := [.int .i64 now, .int .i64 order, .slice A lv.length c]) rfl rfl rfl rfl H ?_
  intro g2 w1 H1
  refine WO.salloc 2 (cs := [.int .i64 0, .int .i64 0, .slice none 0 0]) rfl rfl rfl Try.zeroValue29 rfl H1 ?_
  intro g4 w2 H2
  refine WO.v 3 rfl rfl (r_assignL rfl rfl) ?_
  refine WO.v 4 rfl rfl (r_assignI rfl rfl) ?_
  refine WO.done (Run.seq (Run.regionL [0, 1, 2, 3, 4, 5, 6, 7] rfl ?_))
  refine WO.v 9 rfl rfl (r_loadK (vs := [.int .i64 now, .int .i64 order, .slice A lv.length c]) rfl rfl Try.isAgg29 Try.sizeOf29 rfl (H2.cells p1)) ?_
  refine WO.scall 10 rfl rfl Try.call38 H2 .n (unwind_tri sort_rw now order A c lv w2 (Kd.C_below hr H2.below) hbig) rfl rfl ?_
  rintro e LQ w3 ⟨A', c', ts, b, rfl, rfl, hb1, hb0⟩ H3
  refine ⟨_, rfl, ?_⟩
  refine WO.v 8 rfl rfl (r_moveT rfl rfl) ?_
  refine WO.v 11 rfl rfl (r_extract rfl rfl rfl) ?_
  refine WO.v 12 rfl rfl (r_extract rfl rfl rfl) ?_
  refine WO.salloc 5 (cs := [.int .i64 0, .int .i64 0, .slice none 0 0]) rfl rfl rfl Try.zeroValue69 rfl H3 ?_
  intro g6 w4 H4
  refine WO.sstoreK (vs := [.int .i64 now, .int .i64 order, .slice A' ts.length c']) rfl rfl rfl rfl rfl rfl rfl Try.sizeOf69 rfl H4 p0 rfl ?_
  intro w5 H5
  refine WO.v 6 rfl rfl (r_assignB rfl rfl) ?_
  refine WO.done (Run.seq (Run.seq (Run.regionL [0, 1] rfl ?_)))
  refine WO.v 13 rfl rfl (r_moveB rfl rfl) ?_
  refine WO.v 14 rfl rfl (r_not rfl rfl rfl) ?_
  cases b with
  | false =>
    refine WO.done (Run.condT rfl (Run.seq (Run.regionL [0, 1, 2, 3] rfl ?_)))
    refine WO.v 15 rfl rfl (r_build rfl (build29z _) rfl) ?_
    refine WO.sstoreK (vs := [.int .i64 0, .int .i64 0, .slice none 0 0]) rfl rfl rfl rfl rfl rfl rfl Try.sizeOf29 rfl H5 p2 rfl ?_
    intro wS HS
    refine WO.v 3 rfl rfl (r_assignL rfl rfl) ?_
    refine WO.v 4 rfl rfl (r_assignI rfl rfl) ?_
    exact WO.done (Run.ret3 (v2 := .slice none ([] : List Int).length 0) (v3 := .int .i64 1) Try.func28 Try.results28 ⟨_, rfl, run_loadVarK Try.isAgg29 Try.sizeOf29 rfl (HS.cells p2)⟩ rfl rfl ⟨_, ⟨0, 0, [], [], 1, none, 0, none, 0, rfl, rfl, .inl ⟨hb0 rfl, rfl, rfl, rfl, rfl, rfl⟩⟩, ((HS.row_nil (Ow.int .i64) 3).row_nil o54 54).sel (.c q0 (.c q0 .n))⟩)
  | true =>
    obtain ⟨hG, hp, hso⟩ := hb1 rfl
    have hfew : ts.length ≤ 60 := by rw [hp.length_eq]; exact hG.few
    have hn0 := hG.n0
    have hn1 := hG.n1
    have htm : ∀ x ∈ stayT now ts, 0 ≤ x.f1 ∧ x.f1 ≤ 9223372036854775807 := fun x hx => by have := hG.times x (hp.mem_iff.1 (List.mem_filter.1 hx).1); omega
    refine WO.done (Run.condF rfl (Run.skip (Run.seq (Run.seq (Run.regionL [0, 1, 2] rfl ?_)))))
    refine WO.v 16 rfl rfl (r_fieldAddr rfl rfl Try.underlying69 rfl Try.sizeOf3 (q := 0 + 0) rfl) ?_
    refine WO.v 17 rfl rfl (r_load rfl rfl Try.isAgg3 (H5.cell p0 rfl)) ?_
    by_cases hmax : now = 1000000
    · refine WO.v 18 rfl rfl (r_eql rfl rfl rfl (decide_eq_true hmax)) ?_
      refine WO.done (Run.condT rfl (Run.seq (Run.regionL [0, 1, 2, 3] rfl ?_)))
      refine WO.v 19 rfl rfl (r_build rfl (build29z _) rfl) ?_
      refine WO.sstoreK (vs := [.int .i64 0, .int .i64 0, .slice none 0 0]) rfl rfl rfl rfl rfl rfl rfl Try.sizeOf29 rfl H5 p2 rfl ?_
      intro wS HS
      refine WO.v 3 rfl rfl (r_assignL rfl rfl) ?_
      refine WO.v 4 rfl rfl (r_assignI rfl rfl) ?_
      exact WO.done (Run.ret3 (v2 := .slice none ([] : List Int).length 0) (v3 := .int .i64 4) Try.func28 Try.results28 ⟨_, rfl, run_loadVarK Try.isAgg29 Try.sizeOf29 rfl (HS.cells p2)⟩ rfl rfl ⟨_, ⟨0, 0, [], [], 4, none, 0, none, 0, rfl, rfl, .inr (.inl ⟨hG, hmax, rfl, rfl, rfl, rfl, rfl⟩)⟩, ((HS.row_nil (Ow.int .i64) 3).row_nil o54 54).sel (.c q0 (.c q0 .n))⟩)
    · refine WO.v 18 rfl rfl (r_eql rfl rfl rfl (decide_eq_false hmax)) ?_
      refine WO.done (Run.condF rfl (Run.skip (Run.seq (Run.regionL [0, 1, 2] rfl ?_))))
      refine WO.slit 20 (ow := oI) [] [] rfl rfl rfl rfl lit41n rfl own_nil_ (by decide) H5 ?_
      intro g8 w6 H6
      refine WO.scall 21 rfl rfl Try.call46 H6 (.c q1 (.c q1 (.c q0 .n))) (tick_tri g6 now order A' c' ts _ _ w6 (by omega) hn0 hn1) rfl rfl ?_
      rintro e LQ w7 ⟨A3, c3, rfl, rfl⟩ H7
      refine ⟨_, rfl, ?_⟩
      refine WO.v 7 rfl rfl (r_assignL rfl rfl) ?_
      refine WO.done (Run.seq (Run.regionL [0, 1, 2, 3, 4] rfl ?_))
      refine WO.scall 22 rfl rfl Try.call47 H7 (.c q0 (.c q0 .n)) (wheel_tri g6 (now + 1) order A' c' (stayT now ts) w7 (by omega) (by omega) htm (Nat.le_trans (List.length_filter_le _ _) (by omega))) rfl rfl ?_
      rintro e LQ w8 ⟨A2, c2, rfl, rfl⟩ H8
      refine ⟨_, rfl, ?_⟩
      refine WO.v 23 rfl rfl (r_moveL rfl rfl) ?_
      refine WO.sstoreK (vs := [.int .i64 (now + 1), .int .i64 order, .slice A2 (deal (now + 1) (stayT now ts)).length c2]) rfl rfl rfl rfl rfl rfl rfl Try.sizeOf29 rfl H8 p4 rfl ?_
      intro wS HS
      refine WO.v 3 rfl rfl (r_assignL rfl rfl) ?_
      refine WO.v 4 rfl rfl (r_assignI rfl rfl) ?_
      exact WO.done (Run.ret3 (v2 := .slice A3 (goneT now ts).length c3) (v3 := .int .i64 0) Try.func28 Try.results28 ⟨_, rfl, run_loadVarK Try.isAgg29 Try.sizeOf29 rfl (HS.cells p4)⟩ rfl rfl ⟨_, ⟨now + 1, order, _, _, 0, A2, c2, A3, c3, rfl, rfl, .inr (.inr ⟨hG, hmax, rfl, rfl, ⟨ts, hp, hso, rfl, rfl⟩, rfl⟩)⟩, HS.sel (.c q0 (.c q2 .n))⟩)
end Go.Proofs.Ytojpimpfpjhflaa.Wh
namespace Go.Proofs.Ytojpimpfpjhflaa.Wh
open Go.RowKit Go.Proofs.Ytojpimpfpjhflaa.Fw Go.Proofs.YtojpimpfpjhflaaW.PrintWords Go.Proofs.Ytojpimpfpjhflaa.PFnExactWheelOK
set_option linter.unusedVariables false
set_option linter.unusedSimpArgs false
/-- Timers dealt by a rule that may leave some out. -/
def slotQ (q : S57 → Option (Int × Int)) (T : List S57) (l s : Nat) : List S57 := T.filter fun x => decide (q x = some ((l : Int), (s : Int)))
def dealQ (q : S57 → Option (Int × Int)) (T : List S57) : List (List (List S57)) := (List.range 3).map fun l => (List.range 8).map fun s => slotQ q T l s
section
variable {q q' : S57 → Option (Int × Int)} {T : List S57}
theorem dealQ_len (q : S57 → Option (Int × Int)) (T : List S57) : (dealQ q T).length = 3 := by simp [dealQ]
theorem dealQ_lev (q : S57 → Option (Int × Int)) (T : List S57) {l : Nat} (hl : l < 3) : (dealQ q T).getD l [] = (List.range 8).map fun s => slotQ q T l s := by
  rw [List.getD_eq_getElem?_getD]
  simp [dealQ, List.getElem?_map, List.getElem?_range hl]
theorem dealQ_lens (q : S57 → Option (Int × Int)) (T : List S57) {l : Nat} (hl : l < 3) : ((dealQ q T).getD l []).length = 8 := by rw [dealQ_lev _ _ hl]; simp
theorem dealQ_get (q : S57 → Option (Int × Int)) (T : List S57) {l s : Nat} (hl : l < 3) (hs : s < 8) : ((dealQ q T).getD l []).getD s [] = slotQ q T l s := by
  rw [dealQ_lev _ _ hl, List.getD_eq_getElem?_getD]
  simp [List.getElem?_map, List.getElem?_range hs]
theorem dealQ_le (q : S57 → Option (Int × Int)) (T : List S57) (l s : Nat) : (((dealQ q T).getD l []).getD s []).length ≤ T.length := by
  by_cases hl : l < 3
  · by_cases hs : s < 8
    · rw [dealQ_get _ _ hl hs]; exact List.length_filter_le _ _
    · rw [List.getD_eq_getElem?_getD (l := (dealQ q T).getD l []), List.getElem?_eq_none (by rw [dealQ_lens _ _ hl]; omega)]; simp
  · rw [List.getD_eq_getElem?_getD (l := dealQ q T), List.getElem?_eq_none (by rw [dealQ_len]; omega)]; simp
theorem dealQ_congr (h : ∀ x ∈ T, q x = q' x) : dealQ q T = dealQ q' T := by
  have : ∀ l s, slotQ q T l s = slotQ q' T l s := fun l s => List.filter_congr fun x hx => by rw [h x hx]
  unfold dealQ
  simp only [this]
theorem deal_Q (now : Int) (T : List S57) : deal now T = dealQ (fun x => some (placeP x.f1 now)) T := by
  have : ∀ l s, slotF now T l s = slotQ (fun x => some (placeP x.f1 now)) T l s := fun l s => List.filter_congr fun x hx => by simp
  unfold deal dealQ
  simp only [this]
/-! ### a timer is put among the others -/
theorem insO_ge (x : S57) (F : List S57) (h : ∀ y ∈ F, ¬ y.f2 < x.f2) : insO x F = x :: F := by
  cases F with
  | nil => rfl
  | cons y F =>
    unfold insO
    rw [List.takeWhile_cons, List.dropWhile_cons, if_neg (by simpa using h y List.mem_cons_self), if_neg (by simpa using h y List.mem_cons_self)]
    rfl
theorem insO_lt (x y : S57) (F : List S57) (h : y.f2 < x.f2) : insO x (y :: F) = y :: insO x F := by
  unfold insO
  rw [List.takeWhile_cons, List.dropWhile_cons, if_pos (decide_eq_true h), if_pos (decide_eq_true h)]
  rfl
theorem insO_filter (P : S57 → Bool) (x : S57) (hP : P x = false) : ∀ T : List S57, T.Pairwise (fun a b => a.f2 < b.f2) → x ∈ T → insO x (T.filter P) = T.filter fun y => P y || decide (y.f2 = x.f2)
  | [], _, h => absurd h List.not_mem_nil
  | y :: T, hs, hx => by
    have hs' := List.pairwise_cons.1 hs
    rcases List.mem_cons.1 hx with rfl | hx'
    · rw [List.filter_cons, if_neg (by rw [hP]; simp), List.filter_cons, if_pos (by simp)]
      rw [insO_ge]
      · congr 1
        refine List.filter_congr fun z hz => ?_
        have := hs'.1 z hz
        rw [show decide (z.f2 = x.f2) = false from decide_eq_false (by omega), Bool.or_false]
      · intro z hz
        have := hs'.1 z (List.mem_filter.1 hz).1
        omega
    · have hlt := hs'.1 x hx'
      have ih := insO_filter P x hP T hs'.2 hx'
      rw [List.filter_cons, List.filter_cons, show decide (y.f2 = x.f2) = false from decide_eq_false (by omega), Bool.or_false]
      by_cases hy : P y = true
      · rw [if_pos hy, if_pos hy, insO_lt x y _ hlt, ih]
      · rw [if_neg hy, if_neg hy, ih]
theorem strict_inj : ∀ {T : List S57}, T.Pairwise (fun a b => a.f2 < b.f2) → ∀ x ∈ T, ∀ y ∈ T, x.f2 = y.f2 → x = y
  | [], _, x, hx, _, _, _ => absurd hx List.not_mem_nil
  | z :: T, hs, x, hx, y, hy, e => by
    have hs' := List.pairwise_cons.1 hs
    rcases List.mem_cons.1 hx with ex | hx'
    · rcases List.mem_cons.1 hy with ey | hy'
      · rw [ex, ey]
      · have := hs'.1 y hy'; rw [ex] at e; omega
    · rcases List.mem_cons.1 hy with ey | hy'
      · have := hs'.1 x hx'; rw [ey] at e; omega
      · exact strict_inj hs'.2 x hx' y hy' e
theorem putO_Q (hT : T.Pairwise (fun a b => a.f2 < b.f2)) (Now : Int) (x : S57) (hx : x ∈ T) (hq : q x = none) (h0 : 0 ≤ x.f1) : putO Now x (dealQ q T) = dealQ (fun y => if y.f2 = x.f2 then some (placeP x.f1 Now) else q y) T := by
  obtain ⟨l, s, hl, hs, hpl⟩ := place_lt (at_ := x.f1) (now := Now) h0
  rw [putO_at hpl]
  refine lv_ext (by rw [List.length_set]; exact dealQ_len _ _) (dealQ_len _ _) (fun l' hl' => ⟨?_, dealQ_lens _ _ hl'⟩) fun l' s' hl' hs' => ?_
  · rw [getD_setL _ _ _ _ (by rw [dealQ_len]; omega)]
    split
    · rw [List.length_set]; exact dealQ_lens _ _ hl
    · exact dealQ_lens _ _ hl'
  · rw [dealQ_get _ _ hl' hs', getD_setL _ _ _ _ (by rw [dealQ_len]; omega)]
    have hrest : ¬ (l = l' ∧ s = s') → slotQ q T l' s' = slotQ (fun y => if y.f2 = x.f2 then some (placeP x.f1 Now) else q y) T l' s' := fun hne => by
      refine List.filter_congr fun y hy => ?_
      refine decide_eq_decide.2 ?_
      try dsimp only
      by_cases e : y.f2 = x.f2
      · have := strict_inj hT y hy x hx e
        subst this
        rw [if_pos rfl, hq, hpl]
        refine ⟨fun h => (by cases h), fun h => ?_⟩
        simp only [Option.some.injEq, Prod.mk.injEq] at h
        omega
      · rw [if_neg e]
    by_cases e : l = l'
    · subst e
      rw [if_pos rfl, getD_setL _ _ _ _ (by rw [dealQ_lens _ _ hl]; exact hs)]
      by_cases e2 : s = s'
      · subst e2
        rw [if_pos rfl, dealQ_get _ _ hl hs]
        unfold slotQ
        rw [insO_filter _ x (by rw [hq]; simp) T hT hx]
        refine List.filter_congr fun y hy => ?_
        rw [← Bool.decide_or]
        refine decide_eq_decide.2 ?_
        try dsimp only
        by_cases e : y.f2 = x.f2
        · rw [if_pos e, hpl]; simp [e]
        · rw [if_neg e]; simp [e]
      · rw [if_neg e2, dealQ_get _ _ hl hs']
        exact hrest (fun h => e2 h.2)
    · rw [if_neg e, dealQ_get _ _ hl' hs']
      exact hrest (fun h => e h.1)
/-- A slot is emptied. -/
theorem clear_Q {l s : Nat} (hl : l < 3) (hs : s < 8) : (dealQ q T).set l (((dealQ q T).getD l []).set s []) = dealQ (fun y => if q y = some ((l : Int), (s : Int)) then none else q y) T := by
  refine lv_ext (by rw [List.length_set]; exact dealQ_len _ _) (dealQ_len _ _) (fun l' hl' => ⟨?_, dealQ_lens _ _ hl'⟩) fun l' s' hl' hs' => ?_
  · rw [getD_setL _ _ _ _ (by rw [dealQ_len]; omega)]
    split
    · rw [List.length_set]; exact dealQ_lens _ _ hl
    · exact dealQ_lens _ _ hl'
  · rw [dealQ_get _ _ hl' hs', getD_setL _ _ _ _ (by rw [dealQ_len]; omega)]
    have hrest : ¬ (l = l' ∧ s = s') → slotQ q T l' s' = slotQ (fun y => if q y = some ((l : Int), (s : Int)) then none else q y) T l' s' := fun hne => by
      refine List.filter_congr fun y hy => ?_
      refine decide_eq_decide.2 ?_
      try dsimp only
      by_cases e : q y = some ((l : Int), (s : Int))
      · rw [if_pos e, e]
        refine ⟨fun h => ?_, fun h => by cases h⟩
        simp only [Option.some.injEq, Prod.mk.injEq] at h
        omega
      · rw [if_neg e]
    by_cases e : l = l'
    · subst e
      rw [if_pos rfl, getD_setL _ _ _ _ (by rw [dealQ_lens _ _ hl]; exact hs)]
      by_cases e2 : s = s'
      · subst e2
        rw [if_pos rfl]
        refine (List.filter_eq_nil_iff.2 fun y hy h => ?_).symm
        have h' := of_decide_eq_true h
        try dsimp only at h'
        by_cases e : q y = some ((l : Int), (s : Int))
        · rw [if_pos e] at h'; cases h'
        · rw [if_neg e] at h'; exact e h'
      · rw [if_neg e2, dealQ_get _ _ hl hs']
        exact hrest (fun h => e2 h.2)
    · rw [if_neg e, dealQ_get _ _ hl' hs']
      exact hrest (fun h => e h.1)
/-- One slot falls: behind i of its timers. -/
def fallQ (q : S57 → Option (Int × Int)) (T : List S57) (Now : Int) (l s i : Nat) (y : S57) : Option (Int × Int) :=
  if q y = some ((l : Int), (s : Int)) then (if ((slotQ q T l s).take i).any (fun z => decide (z.f2 = y.f2)) = true then some (placeP y.f1 Now) else none) else q y
def fellQ (q : S57 → Option (Int × Int)) (Now : Int) (l s : Nat) (y : S57) : Option (Int × Int) := if q y = some ((l : Int), (s : Int)) then some (placeP y.f1 Now) else q y
theorem fall_start (Now : Int) (l s : Nat) (hl : l < 3) (hs : s < 8) : (dealQ q T).set l (((dealQ q T).getD l []).set s []) = dealQ (fallQ q T Now l s 0) T := by
  rw [clear_Q hl hs]
  refine dealQ_congr fun y hy => ?_
  unfold fallQ
  split
  · simp
  · rfl
theorem fall_step (hT : T.Pairwise (fun a b => a.f2 < b.f2)) (h0 : ∀ x ∈ T, 0 ≤ x.f1) (Now : Int) (l s i : Nat) (hi : i < (slotQ q T l s).length) : putO Now ((slotQ q T l s).getD i z57) (dealQ (fallQ q T Now l s i) T) = dealQ (fallQ q T Now l s (i + 1)) T := by
  have hx := getD_mem hi
  have hst : (slotQ q T l s).Pairwise (fun a b => a.f2 < b.f2) := hT.filter _
  have htk := take_snoc (slotQ q T l s) i hi
  have hlt : ∀ z ∈ (slotQ q T l s).take i, z.f2 < ((slotQ q T l s).getD i z57).f2 := fun z hz => by
    obtain ⟨j, hj, e⟩ := List.getElem_of_mem hz
    rw [List.length_take] at hj
    rw [List.getElem_take] at e
    have := List.pairwise_iff_getElem.1 hst j i (by omega) hi (by omega)
    rw [e] at this
    rwa [List.getD_eq_getElem?_getD, List.getElem?_eq_getElem hi]
  generalize hxx : (slotQ q T l s).getD i z57 = x at *
  have hxT : x ∈ T := (List.mem_filter.1 hx).1
  have hxq : q x = some ((l : Int), (s : Int)) := of_decide_eq_true (List.mem_filter.1 hx).2
  have hnone : fallQ q T Now l s i x = none := by
    unfold fallQ
    rw [if_pos hxq, if_neg]
    intro h
    obtain ⟨z, hz, e⟩ := List.any_eq_true.1 h
    have := hlt z hz
    have := of_decide_eq_true e
    omega
  rw [putO_Q hT Now x hxT hnone (h0 x hxT)]
  refine dealQ_congr fun y hy => ?_
  by_cases e : y.f2 = x.f2
  · have := strict_inj hT y hy x hxT e
    subst this
    rw [if_pos rfl]
    unfold fallQ
    rw [if_pos hxq, if_pos]
    rw [htk, List.any_append, List.any_cons, decide_eq_true rfl]
    simp
  · rw [if_neg e]
    unfold fallQ
    rw [htk, List.any_append, List.any_cons, List.any_nil, decide_eq_false (fun h => e h.symm), Bool.or_false, Bool.or_false]
theorem fall_end (Now : Int) (l s i : Nat) (hi : (slotQ q T l s).length ≤ i) : dealQ (fallQ q T Now l s i) T = dealQ (fellQ q Now l s) T := by
  refine dealQ_congr fun y hy => ?_
  unfold fallQ fellQ
  split
  · rename_i h
    rw [List.take_of_length_le hi, if_pos]
    exact List.any_eq_true.2 ⟨y, List.mem_filter.2 ⟨hy, decide_eq_true h⟩, decide_eq_true rfl⟩
  · rfl
end
/-- What both falls come to. -/
def fell2 (now : Int) (y : S57) : Option (Int × Int) := if (now + 1) % 64 = 0 then fellQ (fun x => some (placeP x.f1 now)) (now + 1) 2 ((now + 1) / 64 % 8).toNat y else some (placeP y.f1 now)
def fell1 (now : Int) (y : S57) : Option (Int × Int) := if (now + 1) % 8 = 0 then fellQ (fell2 now) (now + 1) 1 ((now + 1) / 8 % 8).toNat y else fell2 now y
theorem some_pair {a b c d : Int} : (some (a, b) = some (c, d)) ↔ a = c ∧ b = d := by simp
theorem fell_place (now : Int) (y : S57) (h0 : 0 ≤ now) (h1 : now + 1 ≤ y.f1) (h2 : y.f1 ≤ now + 500) : fell1 now y = some (placeP y.f1 (now + 1)) := by
  have e2 : (((now + 1) / 64 % 8).toNat : Int) = (now + 1) / 64 % 8 := by omega
  have e1 : (((now + 1) / 8 % 8).toNat : Int) = (now + 1) / 8 % 8 := by omega
  have two : ∀ v : Int × Int, fell2 now y = some v → fell1 now y = if (now + 1) % 8 = 0 ∧ v = (1, (now + 1) / 8 % 8) then some (placeP y.f1 (now + 1)) else some v := fun v hv => by
    unfold fell1 fellQ
    rw [hv]
    simp only [Option.some.injEq]
    rw [show ((1 : Nat) : Int) = 1 from rfl, e1]
    by_cases c : (now + 1) % 8 = 0
    · simp only [c, if_true, true_and]
    · simp only [c, if_false, false_and]
  have one : ∀ v : Int × Int, placeP y.f1 now = v → fell2 now y = if (now + 1) % 64 = 0 ∧ v = (2, (now + 1) / 64 % 8) then some (placeP y.f1 (now + 1)) else some v := fun v hv => by
    unfold fell2 fellQ
    simp only [hv, Option.some.injEq, e2, show ((2 : Nat) : Int) = 2 from rfl]
    by_cases c : (now + 1) % 64 = 0
    · simp only [c, if_true, true_and]
    · simp only [c, if_false, false_and]
  generalize y.f1 = a at *
  by_cases cA : a / 8 = now / 8
  · have hp : placeP a now = (0, a % 8) := by unfold placeP; rw [if_pos cA]
    have hN : placeP a (now + 1) = (0, a % 8) := by unfold placeP; rw [if_pos (by omega)]
    have h := one _ hp
    rw [if_neg (by simp)] at h
    rw [two _ h, if_neg (by simp), hN]
  · by_cases cB : a / 64 = now / 64
    · have hp : placeP a now = (1, a / 8 % 8) := by unfold placeP; rw [if_neg cA, if_pos cB]
      have h := one _ hp
      rw [if_neg (by simp)] at h
      rw [two _ h]
      split
      · rfl
      · rename_i hc
        simp only [Prod.mk.injEq, true_and] at hc
        unfold placeP
        rw [if_neg (by omega), if_pos (by omega)]
    · have hp : placeP a now = (2, a / 64 % 8) := by unfold placeP; rw [if_neg cA, if_neg cB]
      have h := one _ hp
      by_cases hc : (now + 1) % 64 = 0 ∧ ((2, a / 64 % 8) : Int × Int) = (2, (now + 1) / 64 % 8)
      · rw [if_pos hc] at h
        rw [two _ h]
        split <;> rfl
      · rw [if_neg hc] at h
        simp only [Prod.mk.injEq, true_and] at hc
        rw [two _ h, if_neg (by simp)]
        unfold placeP
        rw [if_neg (by omega), if_neg (by omega)]
section
variable {now order : Int} {lv : List (List (List S57))}
/-- What the reference's tick leaves and lets go. -/
theorem Good.tick (hG : Good now order lv) {T : List S57} (hp : T.Perm lv.flatten.flatten) (hs : T.Pairwise (fun a b => a.f2 ≤ b.f2)) :
    lv = dealQ (fun x => some (placeP x.f1 now)) T ∧ (slotQ (fell1 now) T 0 ((now + 1) % 8).toNat).map (·.f0) = goneT now T ∧
    (dealQ (fell1 now) T).set 0 (((dealQ (fell1 now) T).getD 0 []).set ((now + 1) % 8).toNat []) = deal (now + 1) (stayT now T) := by
  have hn0 := hG.n0
  have htm : ∀ x ∈ T, now + 1 ≤ x.f1 ∧ x.f1 ≤ now + 500 := fun x hx => hG.times x (hp.mem_iff.1 hx)
  have e : (((now + 1) % 8).toNat : Int) = (now + 1) % 8 := by omega
  have hz : ∀ x ∈ T, (fell1 now x = some (((0 : Nat) : Int), (((now + 1) % 8).toNat : Int)) ↔ x.f1 = now + 1) := fun x hx => by
    obtain ⟨h1, h2⟩ := htm x hx
    rw [fell_place now x hn0 h1 h2, e, Option.some.injEq]
    unfold placeP
    split
    · simp only [Prod.mk.injEq]; omega
    · split
      · simp only [Prod.mk.injEq]; omega
      · simp only [Prod.mk.injEq]; omega
  refine ⟨by rw [← deal_Q, hG.deal_eq hp hs], ?_, ?_⟩
  · unfold slotQ goneT
    congr 1
    exact List.filter_congr fun x hx => decide_eq_decide.2 (hz x hx)
  · rw [clear_Q (by omega) (by omega), deal_Q]
    have : ∀ l s, slotQ (fun y => if fell1 now y = some (((0 : Nat) : Int), (((now + 1) % 8).toNat : Int)) then none else fell1 now y) T l s = slotQ (fun x => some (placeP x.f1 (now + 1))) (stayT now T) l s := fun l s => by
      unfold slotQ stayT
      rw [List.filter_filter]
      refine List.filter_congr fun x hx => ?_
      rw [← Bool.decide_and]
      refine decide_eq_decide.2 ?_
      try dsimp only
      obtain ⟨h1, h2⟩ := htm x hx
      by_cases c : x.f1 = now + 1
      · rw [if_pos ((hz x hx).2 c)]; simp [c]
      · rw [if_neg (fun h => c ((hz x hx).1 h)), fell_place now x hn0 h1 h2]; simp [c]
    unfold dealQ
    simp only [this]
end
end Go.Proofs.Ytojpimpfpjhflaa.Wh
namespace Go.Proofs.Ytojpimpfpjhflaa.Wh
open Go.RowKit Go.Proofs.Ytojpimpfpjhflaa.Fw Go.Proofs.YtojpimpfpjhflaaW.PrintWords Go.Proofs.Ytojpimpfpjhflaa.PFnExactWheelOK
set_option linter.unusedVariables false
set_option linter.unusedSimpArgs false
def ins1 (x : S57) : List S57 → List S57
  | [] => [x]
  | y :: T => if x.f2 ≤ y.f2 then x :: y :: T else y :: ins1 x T
theorem ins1_perm (x : S57) : ∀ T, (ins1 x T).Perm (x :: T)
  | [] => .refl _
  | y :: T => by
    unfold ins1
    split
    · exact .refl _
    · exact ((ins1_perm x T).cons y).trans (List.Perm.swap x y T)
theorem ins1_sorted (x : S57) : ∀ T : List S57, T.Pairwise (fun a b => a.f2 ≤ b.f2) → (ins1 x T).Pairwise (fun a b => a.f2 ≤ b.f2)
  | [], _ => List.pairwise_singleton _ _
  | y :: T, h => by
    have h' := List.pairwise_cons.1 h
    unfold ins1
    split
    · rename_i hle
      refine List.pairwise_cons.2 ⟨fun z hz => ?_, h⟩
      rcases List.mem_cons.1 hz with rfl | hz
      · exact hle
      · have := h'.1 z hz; omega
    · rename_i hle
      refine List.pairwise_cons.2 ⟨fun z hz => ?_, ins1_sorted x T h'.2⟩
      rcases List.mem_cons.1 ((ins1_perm x T).mem_iff.1 hz) with rfl | hz
      · omega
      · exact h'.1 z hz
theorem exists_sorted : ∀ l : List S57, ∃ T : List S57, T.Perm l ∧ T.Pairwise (fun a b => a.f2 ≤ b.f2)
  | [] => ⟨[], .refl _, List.Pairwise.nil⟩
  | x :: l => by
    obtain ⟨T, h1, h2⟩ := exists_sorted l
    exact ⟨ins1 x T, (ins1_perm x T).trans (h1.cons x), ins1_sorted x T h2⟩
set_option maxHeartbeats 1000000 in
set_option maxRecDepth 20000 in
theorem l11Tick_tri (now order : Int) (A : Option Addr) (c : Nat) (lv : List (List (List S57))) (T : List S57) (w : World) (hr : Kd.C (Kd.slice 55 (Kd.slice 57 k57)) w A lv.length lv) (hG : Good now order lv) (hmax : now ≠ 1000000) (hp : T.Perm lv.flatten.flatten) (hso : T.Pairwise (fun a b => a.f2 ≤ b.f2)) :
    Tri Try.prog 51 #[.agg #[.int .i64 now, .int .i64 order, .slice A lv.length c]] w [] fun e LQ => ∃ A' c' B' k', e = .returned (.tuple #[.agg #[.int .i64 (now + 1), .int .i64 order, .slice A' (deal (now + 1) (stayT now T)).length c'], .slice B' (goneT now T).length k']) ∧
      LQ = [Rw o54 54 (.slice A' (deal (now + 1) (stayT now T)).length c') (deal (now + 1) (stayT now T)), Rw oI 3 (.slice B' (goneT now T).length k') (goneT now T)] := by
  have hn0 := hG.n0
  have hn1 := hG.n1
  have h3l := hG.three
  obtain ⟨hsm1, hsm2⟩ := hG.small
  obtain ⟨hstart, hgone, hend⟩ := hG.tick hp hso
  have hstr := strict_of hG hp hso
  have htm : ∀ x ∈ T, now + 1 ≤ x.f1 ∧ x.f1 ≤ now + 500 := fun x hx => hG.times x (hp.mem_iff.1 hx)
  have hT60 : T.length ≤ 60 := by rw [hp.length_eq]; exact hG.few
  refine tri_of_run0 (fn := Try.f51) (n := 102) Try.func51 rfl Try.ntmps51 (Nat.le_of_ble_eq_true rfl) fun H => ?_
  refine Run.seq (Run.regionL [0, 1, 2] rfl ?_)
  refine WO.sbox 1 (cs := [.int .i64 now, .int .i64 order, .slice A lv.length c]) rfl rfl rfl rfl H ?_
  intro g1 w1 H1
  refine WO.salloc 2 (cs := [.int .i64 0, .int .i64 0, .slice none 0 0]) rfl rfl rfl Try.zeroValue29 rfl H1 ?_
  intro g2 w2 H2
  refine WO.v 3 rfl rfl (r_assignL rfl rfl) ?_
  refine WO.done (Run.seq (Run.regionL [0, 1, 2, 3] rfl ?_))
  refine WO.v 13 rfl rfl (r_loadK (vs := [.int .i64 now, .int .i64 order, .slice A lv.length c]) rfl rfl Try.isAgg29 Try.sizeOf29 rfl (H2.cells p1)) ?_
  refine WO.scall 14 rfl rfl Try.call52 H2 .n (own_tri now order A c lv w2 (Kd.C_below hr H2.below) hsm1 hsm2) rfl rfl ?_
  rintro e LQ w3 ⟨AO, co, rfl, rfl⟩ H3
  refine ⟨_, rfl, ?_⟩
  obtain ⟨gl, rfl, _⟩ := H3.lies p0 (by omega)
  refine WO.salloc 4 (cs := [.int .i64 0, .int .i64 0, .slice none 0 0]) rfl rfl rfl Try.zeroValue29 rfl H3 ?_
  intro g4 w4 H4
  refine WO.sstoreK (vs := [.int .i64 now, .int .i64 order, .slice (some ⟨gl, 0, none⟩) lv.length co]) rfl rfl rfl rfl rfl rfl rfl Try.sizeOf29 rfl H4 p0 rfl ?_
  intro w5 H5
  refine WO.done (Run.seq (Run.regionL [0, 1, 2, 3, 4] rfl ?_))
  refine WO.v 15 rfl rfl (r_fieldAddr rfl rfl Try.underlying29 rfl Try.sizeOf3 (q := 0 + 0) rfl) ?_
  refine WO.v 16 rfl rfl (r_load rfl rfl Try.isAgg3 (H5.cell p0 rfl)) ?_
  refine WO.v 17 rfl rfl (r_add rfl rfl rfl (c := now + 1) (wrap_in (by omega) (by omega))) ?_
  refine WO.v 18 rfl rfl (r_fieldAddr rfl rfl Try.underlying29 rfl Try.sizeOf3 (q := 0 + 0) rfl) ?_
  refine WO.sstore rfl rfl rfl rfl rfl rfl Try.sizeOf3 H5 p0 .z ?_
  intro w6 H6
  refine WO.done (Run.seq (Run.regionL [0] rfl ?_))
  refine WO.v 5 rfl rfl (r_assignI rfl rfl) ?_
  refine WO.done (Run.seq (Run.seq (Run.regionL [0] rfl ?_)))
  refine WO.v 6 rfl rfl (r_assignI rfl rfl) ?_
  refine WO.done (Run.block ?_)
  refine Run.loopInv (fun m τ wr => ∃ (l : Nat) (u : Int) (q : S57 → Option (Int × Int)) (lq : List (List (List S57))), l = m ∧ ((l = 2 ∧ u = 64 ∧ q = fun x => some (placeP x.f1 now)) ∨ (l = 1 ∧ u = 8 ∧ q = fell2 now) ∨ (l = 0 ∧ q = fell1 now)) ∧ lq = dealQ q T ∧ τ 2 = .pointer (some ⟨g2, 0, none⟩) ∧ τ 4 = .pointer (some ⟨g4, 0, none⟩) ∧ τ 5 = .int .i64 u ∧ τ 6 = .int .i64 (l : Int) ∧
      St w Em [Bk g4 [.int .i64 (now + 1), .int .i64 order, .slice (some ⟨gl, 0, none⟩) lq.length co] 29, Rw o54 54 (.slice (some ⟨gl, 0, none⟩) lq.length co) lq, Bk g2 [.int .i64 0, .int .i64 0, .slice none 0 0] 29, Bk g1 [.int .i64 now, .int .i64 order, .slice A lv.length c] 29] wr) 2 ⟨2, 64, _, lv, rfl, .inl ⟨rfl, rfl, rfl⟩, hstart, rfl, rfl, rfl, rfl, H6⟩ ?_
  clear H H1 H2 H3 H4 H5 H6 hstart
  rintro m τ wr ih ⟨l, u, q, lq, rfl, hst, hlq, h2, h4, h5, h6, H⟩
  have hlq3 : lq.length = 3 := by rw [hlq]; exact dealQ_len _ _
  refine Run.seq (Run.seq (Run.regionL [0, 1] rfl ?_))
  refine WO.v 19 rfl rfl (r_moveI rfl h6) ?_
  refine WO.v 20 rfl rfl (r_gtr rfl rfl rfl rfl) ?_
  refine WO.done (Run.test rfl (fun hq => ?_) (fun hq => ?_))
  · have hl : 1 ≤ l ∧ l ≤ 2 := by omega
    have hl3 : l < 3 := by omega
    have hu : (l = 2 ∧ u = 64) ∨ (l = 1 ∧ u = 8) := by rcases hst with ⟨a, b, _⟩ | ⟨a, b, _⟩ | ⟨a, _⟩ <;> omega
    have hu0 : 0 < u := by omega
    -- behind one level
    have hnext : ∀ (q' : S57 → Option (Int × Int)), q' = (if (now + 1) % u = 0 then fellQ q (now + 1) l ((now + 1) / u % 8).toNat else q) → (l - 1 = 1 ∧ u / 8 = 8 ∧ q' = fell2 now) ∨ (l - 1 = 0 ∧ q' = fell1 now) := fun q' hq' => by
      rcases hst with ⟨rfl, rfl, rfl⟩ | ⟨rfl, rfl, rfl⟩ | ⟨rfl, _⟩
      · refine .inl ⟨rfl, rfl, ?_⟩; rw [hq']; funext y; unfold fell2; split <;> rfl
      · refine .inr ⟨rfl, ?_⟩; rw [hq']; funext y; unfold fell1; split <;> rfl
      · omega
    refine Run.skip (Run.seq (Run.block (Run.seq (Run.seq (Run.regionL [0, 1, 2, 3, 4] rfl ?_)))))
    refine WO.v 23 rfl rfl (r_fieldAddr rfl h4 Try.underlying29 rfl Try.sizeOf3 (q := 0 + 0) rfl) ?_
    refine WO.v 24 rfl rfl (r_load rfl rfl Try.isAgg3 (H.cell p0 rfl)) ?_
    refine WO.v 25 rfl rfl (r_moveI rfl h5) ?_
    refine WO.v 26 rfl rfl (r_rem rfl rfl rfl (by omega) (rem_in (by omega))) ?_
    by_cases c0 : (now + 1) % u = 0
    · refine WO.v 27 rfl rfl (r_eql rfl rfl rfl (decide_eq_true c0)) ?_
      generalize hkn : ((now + 1) / u % 8).toNat = kn
      have hq8 : 0 ≤ (now + 1) / u := Int.ediv_nonneg (by omega) (by omega)
      have hk8 : kn < 8 := by omega
      have hke : (now + 1) / u % 8 = (kn : Int) := by omega
      have hlev8 : (lq.getD l []).length = 8 := by rw [hlq]; exact dealQ_lens _ _ hl3
      have hgl : lq[l]? = some (lq.getD l []) := getElem?_getD [] (by omega)
      have hgs : (lq.getD l [])[kn]? = some ((lq.getD l []).getD kn []) := getElem?_getD [] (by omega)
      have hslq : (lq.getD l []).getD kn [] = slotQ q T l kn := by rw [hlq]; exact dealQ_get _ _ hl3 hk8
      have hfs := fall_start (q := q) (T := T) (now + 1) l kn hl3 hk8
      rw [← hlq] at hfs
      have hsT : ∀ x ∈ slotQ q T l kn, x ∈ T := fun x hx => (List.mem_filter.1 hx).1
      have hsle : (slotQ q T l kn).length ≤ T.length := List.length_filter_le _ _
      refine WO.done (Run.condT rfl (Run.seq (Run.regionL [0, 1, 2, 3, 4, 5] rfl ?_)))
      refine WO.v 28 rfl rfl (r_fieldAddr rfl h4 Try.underlying29 rfl Try.sizeOf3 (q := 0 + 0) rfl) ?_
      refine WO.v 29 rfl rfl (r_load rfl rfl Try.isAgg3 (H.cell p0 rfl)) ?_
      refine WO.v 30 rfl rfl (r_moveI rfl h5) ?_
      refine WO.v 31 rfl rfl (r_quo rfl rfl rfl (by omega) (quo_in (by omega) (by omega) hu0)) ?_
      refine WO.v 32 rfl rfl (r_rem (c := (kn : Int)) rfl rfl rfl (by decide) ((rem_in hq8).trans hke)) ?_
      refine WO.v 7 rfl rfl (r_assignI rfl rfl) ?_
      obtain ⟨A1, c1, H7⟩ := H.takeR p1 l hgl
      obtain ⟨A2, c2, H8⟩ := H7.takeR p0 kn hgs
      obtain ⟨_, _, gl1, rfl, _⟩ := H8.hole p1
      rw [hslq] at H8
      generalize hsl : slotQ q T l kn = sl at *
      generalize hlev : lq.getD l [] = lev at *
      refine WO.done (Run.seq (Run.regionL [0, 1, 2, 3, 4, 5, 6, 7, 8] rfl ?_))
      refine WO.v 33 rfl rfl (r_fieldAddr rfl h4 Try.underlying29 rfl Try.sizeOf27 (q := 0 + 2) rfl) ?_
      refine WO.v 34 rfl rfl (r_load rfl rfl Try.isAgg27 (H8.cell p2 rfl)) ?_
      refine WO.v 35 rfl rfl (r_moveI rfl h6) ?_
      refine WO.v 36 rfl rfl (r_indexAddr rfl rfl rfl Try.underlying27 Try.sizeOf54 (by omega) (by omega) (q := 0 + l) (by rw [Int.toNat_natCast, Nat.mul_one])) ?_
      refine WO.v 37 rfl rfl (r_load rfl rfl Try.isAgg54 (H8.holeCell p3 rfl)) ?_
      refine WO.v 38 rfl rfl (r_moveI rfl rfl) ?_
      refine WO.v 39 rfl rfl (r_indexAddr rfl rfl rfl Try.underlying54 Try.sizeOf55 (by omega) (by omega) (q := 0 + kn) (by rw [Int.toNat_natCast, Nat.mul_one])) ?_
      refine WO.v 40 rfl rfl (r_load rfl rfl Try.isAgg55 (H8.holeCell p1 rfl)) ?_
      refine WO.v 8 rfl rfl (r_assignL rfl rfl) ?_
      refine WO.done (Run.seq (Run.regionL [0, 1, 2, 3, 4, 5, 6, 7, 8] rfl ?_))
      refine WO.v 41 rfl rfl (r_fieldAddr rfl h4 Try.underlying29 rfl Try.sizeOf27 (q := 0 + 2) rfl) ?_
      refine WO.v 42 rfl rfl (r_load rfl rfl Try.isAgg27 (H8.cell p2 rfl)) ?_
      refine WO.v 43 rfl rfl (r_moveI rfl h6) ?_
      refine WO.v 44 rfl rfl (r_indexAddr rfl rfl rfl Try.underlying27 Try.sizeOf54 (by omega) (by omega) (q := 0 + l) (by rw [Int.toNat_natCast, Nat.mul_one])) ?_
      refine WO.v 45 rfl rfl (r_load rfl rfl Try.isAgg54 (H8.holeCell p3 rfl)) ?_
      refine WO.v 46 rfl rfl (r_moveI rfl rfl) ?_
      refine WO.slit 47 (ow := o57) [] [] rfl rfl rfl rfl lit55 rfl own_nil_ (by decide) H8 ?_
      intro g9 w9 H9
      refine WO.v 48 rfl rfl (r_indexAddr rfl rfl rfl Try.underlying54 Try.sizeOf55 (by omega) (by omega) (q := 0 + kn) (by rw [Int.toNat_natCast, Nat.mul_one])) ?_
      refine WO.sfill (j := kn) rfl rfl rfl rfl rfl rfl Try.sizeOf55 rfl (H9.elR p0) p1 (by show 0 + kn = kn * 1; omega) ?_
      intro w10 H10
      have hls : (lev.set kn []).length = lev.length := List.length_set
      rw [← hls] at H10
      have H11 := (H10.sel (.c q1 (.c q0 (.c q0 (.c q0 (.c q0 (.c q0 .n))))))).backR p2
      rw [hfs] at H11
      have hll : (dealQ (fallQ q T (now + 1) l kn 0) T).length = lq.length := (dealQ_len _ _).trans hlq3.symm
      rw [← hll] at H11
      refine WO.done (Run.seq (Run.regionL [0] rfl ?_))
      refine WO.v 9 rfl rfl (r_assignI rfl rfl) ?_
      refine WO.done (Run.block ?_)
      refine Run.loopInv (fun m τ wr => ∃ (i : Nat) (lq : List (List (List S57))), i + m = sl.length ∧ lq = dealQ (fallQ q T (now + 1) l kn i) T ∧ τ 2 = .pointer (some ⟨g2, 0, none⟩) ∧ τ 4 = .pointer (some ⟨g4, 0, none⟩) ∧ τ 5 = .int .i64 u ∧ τ 6 = .int .i64 (l : Int) ∧ τ 8 = .slice A2 sl.length c2 ∧ τ 9 = .int .i64 i ∧
          St w Em [Rw o57 57 (.slice A2 sl.length c2) sl, Bk g4 [.int .i64 (now + 1), .int .i64 order, .slice (some ⟨gl, 0, none⟩) lq.length co] 29, Rw o54 54 (.slice (some ⟨gl, 0, none⟩) lq.length co) lq, Bk g2 [.int .i64 0, .int .i64 0, .slice none 0 0] 29, Bk g1 [.int .i64 now, .int .i64 order, .slice A lv.length c] 29] wr) sl.length ⟨0, _, by omega, rfl, h2, h4, h5, h6, rfl, rfl, H11⟩ ?_
      clear H H7 H8 H9 H10 H11 h2 h4 h5 h6 hll hfs
      rintro m2 τ w2 ih2 ⟨i, lz, hm2, hlz, h2, h4, h5, h6, h8, h9, H⟩
      have hlz3 : lz.length = 3 := by rw [hlz]; exact dealQ_len _ _
      refine Run.seq (Run.seq (Run.regionL [0, 1, 2, 3] rfl ?_))
      refine WO.v 49 rfl rfl (r_moveI rfl h9) ?_
      refine WO.v 50 rfl rfl (r_moveL rfl h8) ?_
      refine WO.v 51 rfl rfl (r_len (e := 57) rfl rfl Try.underlying55) ?_
      refine WO.v 52 rfl rfl (r_lss rfl rfl rfl rfl) ?_
      refine WO.done (Run.test rfl (fun hq3 => ?_) (fun hq3 => ?_))
      · have hi : i < sl.length := by omega
        have hstep := fall_step (q := q) (T := T) hstr (fun x hx => by have := htm x hx; omega) (now + 1) l kn i (by rw [hsl]; exact hi)
        rw [hsl, ← hlz] at hstep
        have hxT := htm _ (hsT _ (getD_mem hi))
        obtain ⟨gs, rfl, _⟩ := H.lies p0 (by omega)
        generalize hx : sl.getD i z57 = x at *
        refine Run.skip (Run.seq (Run.block ?_))
        have HA : St w Em ([Rw o57 57 (.slice (some ⟨gs, 0, none⟩) sl.length c2) sl, Bk g4 [.int .i64 (now + 1), .int .i64 order, .slice (some ⟨gl, 0, none⟩) lz.length co] 29, Bk g2 [.int .i64 0, .int .i64 0, .slice none 0 0] 29, Bk g1 [.int .i64 now, .int .i64 order, .slice A lv.length c] 29] ++ [Rw o54 54 (.slice (some ⟨gl, 0, none⟩) lz.length co) lz]) w2 := H.sel (.c q0 (.c q0 (.c q1 (.c q1 (.c q0 .n)))))
        refine Run.mix 6 (fun _ => 6) (fun | 5 => [Rw o54 54 (.slice (some ⟨gl, 0, none⟩) lz.length co) lz] | _ => []) (fun ii v Lp => ((fun i => Nat.beq i 5) ii = false → Lp = []) ∧ match ii with
            | 0 => v = .agg #[.int .i64 (now + 1), .int .i64 order, .slice (some ⟨gl, 0, none⟩) lz.length co]
            | 1 => v = .slice (some ⟨gs, 0, none⟩) sl.length c2
            | 2 => v = .int .i64 (i : Int)
            | 3 => v = .pointer (some ⟨gs, 0 + i * 3, none⟩)
            | 4 => v = .agg #[.int .i64 x.f0, .int .i64 x.f1, .int .i64 x.f2]
            | 5 => Lp = [Rw o54 54 (.slice (some ⟨gl, 0, none⟩) (putO (now + 1) x lz).length co) (putO (now + 1) x lz)]
            | _ => True)
          [Rw o57 57 (.slice (some ⟨gs, 0, none⟩) sl.length c2) sl, Bk g4 [.int .i64 (now + 1), .int .i64 order, .slice (some ⟨gl, 0, none⟩) lz.length co] 29, Bk g2 [.int .i64 0, .int .i64 0, .slice none 0 0] 29, Bk g1 [.int .i64 now, .int .i64 order, .slice A lv.length c] 29] HA (by kernel_rfl) rfl (by kernel_rfl) (by kernel_rfl) ?_ ?_
        · intro ii hii
          match ii, hii with
          | 0, _ =>
            exact ⟨_, rfl, fun τ' w' Lp Rest hfr hq HS => ⟨fun _ => opStep.val (r_loadK (vs := [.int .i64 (now + 1), .int .i64 order, .slice (some ⟨gl, 0, none⟩) lz.length co]) rfl (show τ' 4 = .pointer (some ⟨g4, 0, none⟩) from (hfr 4 (by kernel_rfl)).trans h4) Try.isAgg29 Try.sizeOf29 rfl (HS.cells p1)) ⟨[], ⟨fun _ => rfl, rfl⟩, HS⟩, fun h => nomatch h⟩⟩
          | 1, _ =>
            exact ⟨_, rfl, fun τ' w' Lp Rest hfr hq HS => ⟨fun _ => opStep.val (r_moveL rfl (show τ' 8 = .slice (some ⟨gs, 0, none⟩) sl.length c2 from (hfr 8 (by kernel_rfl)).trans h8)) ⟨[], ⟨fun _ => rfl, rfl⟩, HS⟩, fun h => nomatch h⟩⟩
          | 2, _ =>
            exact ⟨_, rfl, fun τ' w' Lp Rest hfr hq HS => ⟨fun _ => opStep.val (r_moveI rfl (show τ' 9 = .int .i64 (i : Int) from (hfr 9 (by kernel_rfl)).trans h9)) ⟨[], ⟨fun _ => rfl, rfl⟩, HS⟩, fun h => nomatch h⟩⟩
          | 3, _ =>
            exact ⟨_, rfl, fun τ' w' Lp Rest hfr hq HS => ⟨fun _ => opStep.val (r_indexAddr rfl (show τ' 56 = .slice (some ⟨gs, 0, none⟩) sl.length c2 from (hq 1 (by kernel_rfl)).2) (show τ' 57 = .int .i64 (i : Int) from (hq 2 (by kernel_rfl)).2) Try.underlying55 Try.sizeOf57 (by omega) (by omega) (q := 0 + i * 3) (by rw [Int.toNat_natCast])) ⟨[], ⟨fun _ => rfl, rfl⟩, HS⟩, fun h => nomatch h⟩⟩
          | 4, _ =>
            exact ⟨_, rfl, fun τ' w' Lp Rest hfr hq HS => ⟨fun _ => opStep.val (r_loadK (vs := [.int .i64 x.f0, .int .i64 x.f1, .int .i64 x.f2]) rfl (show τ' 58 = .pointer (some ⟨gs, 0 + i * 3, none⟩) from (hq 3 (by kernel_rfl)).2) Try.isAgg57 Try.sizeOf57 rfl (by have := row_cells (HS.rdC p0) i hi; rw [hx] at this; exact this)) ⟨[], ⟨fun _ => rfl, rfl⟩, HS⟩, fun h => nomatch h⟩⟩
          | 5, _ =>
            refine ⟨_, rfl, fun τ' w' Lp Rest hfr hq HS => ⟨fun _ => ?_, fun h => nomatch h⟩⟩
            have h55 : τ' 55 = .agg #[.int .i64 (now + 1), .int .i64 order, .slice (some ⟨gl, 0, none⟩) lz.length co] := (hq 0 (by kernel_rfl)).2
            have h59 : τ' 59 = .agg #[.int .i64 x.f0, .int .i64 x.f1, .int .i64 x.f2] := (hq 4 (by kernel_rfl)).2
            have HS2 : St w Em (Rw o57 57 (.slice (some ⟨gs, 0, none⟩) sl.length c2) sl :: Bk g4 [.int .i64 (now + 1), .int .i64 order, .slice (some ⟨gl, 0, none⟩) lz.length co] 29 :: Bk g2 [.int .i64 0, .int .i64 0, .slice none 0 0] 29 :: Bk g1 [.int .i64 now, .int .i64 order, .slice A lv.length c] 29 :: Rw o54 54 (.slice (some ⟨gl, 0, none⟩) lz.length co) lz :: Rest) w' := HS
            refine opStep.call (r_call rfl rfl (args2 h55 h59) Try.call66) (Calls.use HS2 (.c q4 .n) (put_tri (now + 1) order (some ⟨gl, 0, none⟩) co lz x w' hlz3 (fun l' hl' => by rw [hlz]; exact dealQ_lens _ _ hl') (fun l' s' => by rw [hlz]; have := dealQ_le (fallQ q T (now + 1) l kn i) T l' s'; omega) (by omega) (by omega) (by omega) (by omega))) ?_
            rintro e w'' ⟨LQ, ⟨rfl, rfl⟩, H3⟩
            exact ⟨_, rfl, _, ⟨fun h => Bool.noConfusion h, rfl⟩, St.into (X := [_]) (L0 := [Rw o57 57 (.slice (some ⟨gs, 0, none⟩) sl.length c2) sl, Bk g4 [.int .i64 (now + 1), .int .i64 order, .slice (some ⟨gl, 0, none⟩) lz.length co] 29, Bk g2 [.int .i64 0, .int .i64 0, .slice none 0 0] 29, Bk g1 [.int .i64 now, .int .i64 order, .slice A lv.length c] 29]) H3⟩
          | n + 6, hn => exact absurd hn (by omega)
        · intro τ' w9 Lp hQ hfr HS'
          rw [fm_pick (pr := fun i => Nat.beq i 5) (l := [5]) (fun j hj => (hQ j hj).1) (by kernel_rfl)] at HS'
          have HS := HS'
          have hL1 : Lp 5 = [Rw o54 54 (.slice (some ⟨gl, 0, none⟩) (putO (now + 1) x lz).length co) (putO (now + 1) x lz)] := (hQ 5 (by decide)).2
          rw [List.flatMap_cons, hL1] at HS
          have HB : St w Em [Rw o57 57 (.slice (some ⟨gs, 0, none⟩) sl.length c2) sl, Bk g4 [.int .i64 (now + 1), .int .i64 order, .slice (some ⟨gl, 0, none⟩) lz.length co] 29, Rw o54 54 (.slice (some ⟨gl, 0, none⟩) (putO (now + 1) x lz).length co) (putO (now + 1) x lz), Bk g2 [.int .i64 0, .int .i64 0, .slice none 0 0] 29, Bk g1 [.int .i64 now, .int .i64 order, .slice A lv.length c] 29] w9 := HS.sel (.c q0 (.c q0 (.c q2 (.c q0 (.c q0 .n)))))
          have hpl : (putO (now + 1) x lz).length = lz.length := by rw [hstep, dealQ_len, hlz3]
          rw [← hpl] at HB
          have f2 : τ' 2 = .pointer (some ⟨g2, 0, none⟩) := (hfr 2 (by kernel_rfl)).trans h2
          have f4 : τ' 4 = .pointer (some ⟨g4, 0, none⟩) := (hfr 4 (by kernel_rfl)).trans h4
          have f5 : τ' 5 = .int .i64 u := (hfr 5 (by kernel_rfl)).trans h5
          have f6 : τ' 6 = .int .i64 (l : Int) := (hfr 6 (by kernel_rfl)).trans h6
          have f8 : τ' 8 = .slice (some ⟨gs, 0, none⟩) sl.length c2 := (hfr 8 (by kernel_rfl)).trans h8
          have f9 : τ' 9 = .int .i64 i := (hfr 9 (by kernel_rfl)).trans h9
          clear HS HS' hQ hfr hL1 HA H
          refine (WO.done ?_ : WO _ _ _ _ _ _ [] _ _)
          refine Run.blockEnd (Run.regionL [0, 1, 2] rfl ?_)
          refine WO.v 53 rfl rfl (r_moveI rfl f9) ?_
          refine WO.v 54 rfl rfl (r_add rfl rfl rfl (c := (i : Int) + 1) (wrap_in (by omega) (by omega))) ?_
          refine WO.v 9 rfl rfl (r_assignI rfl rfl) ?_
          exact WO.done (ih2 (m2 - 1) _ _ (by omega) ⟨i + 1, putO (now + 1) x lz, by omega, hstep, f2, f4, f5, f6, f8, rfl, HB⟩)
      · have hfe := fall_end (q := q) (T := T) (now + 1) l kn i (by rw [hsl]; omega)
        refine Run.exit rfl (Run.regionL [0, 1, 2] rfl ?_)
        refine WO.v 61 rfl rfl (r_moveI rfl h5) ?_
        refine WO.v 62 rfl rfl (r_quo rfl rfl rfl (by decide) (quo_in (by omega) (by omega) (by decide))) ?_
        refine WO.v 5 rfl rfl (r_assignI rfl rfl) ?_
        refine WO.done (Run.blockEnd (Run.regionL [0, 1, 2] rfl ?_))
        refine WO.v 21 rfl rfl (r_moveI rfl h6) ?_
        refine WO.v 22 rfl rfl (r_sub rfl rfl rfl (c := ((l - 1 : Nat) : Int)) ((wrap_in (by omega) (by omega)).trans (by omega))) ?_
        refine WO.v 6 rfl rfl (r_assignI rfl rfl) ?_
        refine WO.done (ih (l - 1) _ _ (by omega) ⟨l - 1, u / 8, fellQ q (now + 1) l kn, lz, rfl, ?_, ?_, h2, h4, rfl, rfl, H.sel (.c q1 (.c q1 (.c q1 (.c q1 .n))))⟩)
        · exact .inr (hnext _ (by rw [if_pos c0, hkn]))
        · rw [hlz, hfe]
    · refine WO.v 27 rfl rfl (r_eql rfl rfl rfl (decide_eq_false c0)) ?_
      refine WO.done (Run.condF rfl (Run.skip (Run.regionL [0, 1, 2] rfl ?_)))
      refine WO.v 61 rfl rfl (r_moveI rfl h5) ?_
      refine WO.v 62 rfl rfl (r_quo rfl rfl rfl (by decide) (quo_in (by omega) (by omega) (by decide))) ?_
      refine WO.v 5 rfl rfl (r_assignI rfl rfl) ?_
      refine WO.done (Run.blockEnd (Run.regionL [0, 1, 2] rfl ?_))
      refine WO.v 21 rfl rfl (r_moveI rfl h6) ?_
      refine WO.v 22 rfl rfl (r_sub rfl rfl rfl (c := ((l - 1 : Nat) : Int)) ((wrap_in (by omega) (by omega)).trans (by omega))) ?_
      refine WO.v 6 rfl rfl (r_assignI rfl rfl) ?_
      refine WO.done (ih (l - 1) _ _ (by omega) ⟨l - 1, u / 8, q, lq, rfl, ?_, ?_, h2, h4, rfl, rfl, H⟩)
      · exact .inr (hnext _ (by rw [if_neg c0]))
      · exact hlq
  · have hl0 : l = 0 := by omega
    have hq1 : q = fell1 now := by rcases hst with ⟨a, _, _⟩ | ⟨a, _, _⟩ | ⟨_, b⟩; omega; omega; exact b
    subst hq1
    clear hst ih
    generalize hkz : ((now + 1) % 8).toNat = kz at hgone hend
    have hk8 : kz < 8 := by omega
    have hke : (now + 1) % 8 = (kz : Int) := by omega
    have hlev8 : (lq.getD 0 []).length = 8 := by rw [hlq]; exact dealQ_lens _ _ (by omega)
    have hgl : lq[0]? = some (lq.getD 0 []) := getElem?_getD [] (by omega)
    have hgs : (lq.getD 0 [])[kz]? = some ((lq.getD 0 []).getD kz []) := getElem?_getD [] (by omega)
    have hslq : (lq.getD 0 []).getD kz [] = slotQ (fell1 now) T 0 kz := by rw [hlq]; exact dealQ_get _ _ (by omega) hk8
    rw [← hlq] at hend
    have hsle : (slotQ (fell1 now) T 0 kz).length ≤ T.length := List.length_filter_le _ _
    refine Run.exit rfl (Run.seq (Run.regionL [0, 1] rfl ?_))
    refine WO.slit 63 (ow := oI) [] [] rfl rfl rfl rfl lit41n rfl own_nil_ (by decide) H ?_
    intro g9 w9 H9
    refine WO.v 10 rfl rfl (r_assignL rfl rfl) ?_
    refine WO.done (Run.seq (Run.regionL [0, 1, 2, 3] rfl ?_))
    refine WO.v 64 rfl rfl (r_fieldAddr rfl h4 Try.underlying29 rfl Try.sizeOf3 (q := 0 + 0) rfl) ?_
    refine WO.v 65 rfl rfl (r_load rfl rfl Try.isAgg3 (H9.cell p1 rfl)) ?_
    refine WO.v 66 rfl rfl (r_rem (c := (kz : Int)) rfl rfl rfl (by decide) ((rem_in (by omega)).trans hke)) ?_
    refine WO.v 11 rfl rfl (r_assignI rfl rfl) ?_
    obtain ⟨A1, c1, H7⟩ := H9.takeR p2 0 hgl
    obtain ⟨A2, c2, H8⟩ := H7.takeR p0 kz hgs
    obtain ⟨_, _, gl1, rfl, _⟩ := H8.hole p1
    rw [hslq] at H8
    generalize hsl : slotQ (fell1 now) T 0 kz = sl at *
    generalize hlev : lq.getD 0 [] = lev at *
    refine WO.done (Run.seq (Run.seq (Run.regionL [0] rfl ?_)))
    refine WO.v 12 rfl rfl (r_assignI rfl rfl) ?_
    refine WO.done (Run.block ?_)
    refine Run.loopInv (fun m τ wr => ∃ (i : Nat) (fs : List Int) (AF : Option Addr) (cF : Nat), i + m = sl.length ∧ fs = (sl.take i).map (·.f0) ∧ τ 2 = .pointer (some ⟨g2, 0, none⟩) ∧ τ 4 = .pointer (some ⟨g4, 0, none⟩) ∧ τ 10 = .slice AF fs.length cF ∧ τ 11 = .int .i64 (kz : Int) ∧ τ 12 = .int .i64 i ∧
        St w Em [Rw o57 57 (.slice A2 sl.length c2) sl, RwH o55 55 (.slice (some ⟨gl1, 0, none⟩) lev.length c1) lev kz [.slice A2 sl.length c2], Rw oI 3 (.slice AF fs.length cF) fs, Bk g4 [.int .i64 (now + 1), .int .i64 order, .slice (some ⟨gl, 0, none⟩) lq.length co] 29, RwH o54 54 (.slice (some ⟨gl, 0, none⟩) lq.length co) lq 0 [.slice (some ⟨gl1, 0, none⟩) lev.length c1], Bk g2 [.int .i64 0, .int .i64 0, .slice none 0 0] 29, Bk g1 [.int .i64 now, .int .i64 order, .slice A lv.length c] 29] wr) sl.length ⟨0, [], _, _, by omega, rfl, h2, h4, rfl, rfl, rfl, H8⟩ ?_
    clear H H7 H8 H9 h2 h4 h5 h6
    rintro m2 τ w2 ih2 ⟨i, fs, AF, cF, hm2, hfs, h2, h4, h10, h11, h12, H⟩
    have hfl : fs.length ≤ sl.length := by rw [hfs, List.length_map, List.length_take]; omega
    refine Run.seq (Run.seq (Run.regionL [0, 1, 2, 3, 4, 5, 6, 7, 8, 9] rfl ?_))
    refine WO.v 67 rfl rfl (r_moveI rfl h12) ?_
    refine WO.v 68 rfl rfl (r_fieldAddr rfl h4 Try.underlying29 rfl Try.sizeOf27 (q := 0 + 2) rfl) ?_
    refine WO.v 69 rfl rfl (r_load rfl rfl Try.isAgg27 (H.cell p3 rfl)) ?_
    refine WO.v 70 rfl rfl (r_indexAddr rfl rfl rfl Try.underlying27 Try.sizeOf54 (by decide) (by omega) (q := 0 + 0) rfl) ?_
    refine WO.v 71 rfl rfl (r_load rfl rfl Try.isAgg54 (H.holeCell p4 rfl)) ?_
    refine WO.v 72 rfl rfl (r_moveI rfl h11) ?_
    refine WO.v 73 rfl rfl (r_indexAddr rfl rfl rfl Try.underlying54 Try.sizeOf55 (by omega) (by omega) (q := 0 + kz) (by rw [Int.toNat_natCast, Nat.mul_one])) ?_
    refine WO.v 74 rfl rfl (r_load rfl rfl Try.isAgg55 (H.holeCell p1 rfl)) ?_
    refine WO.v 75 rfl rfl (r_len (e := 57) rfl rfl Try.underlying55) ?_
    refine WO.v 76 rfl rfl (r_lss rfl rfl rfl rfl) ?_
    refine WO.done (Run.test rfl (fun hq3 => ?_) (fun hq3 => ?_))
    · have hi : i < sl.length := by omega
      obtain ⟨gs, rfl, _⟩ := H.lies p0 (by omega)
      refine Run.skip (Run.seq (Run.block (Run.regionL [0, 1, 2, 3, 4, 5, 6, 7, 8, 9, 10, 11, 12, 13, 14] rfl ?_)))
      refine WO.v 79 rfl rfl (r_moveL rfl h10) ?_
      refine WO.v 80 rfl rfl (r_fieldAddr rfl h4 Try.underlying29 rfl Try.sizeOf27 (q := 0 + 2) rfl) ?_
      refine WO.v 81 rfl rfl (r_load rfl rfl Try.isAgg27 (H.cell p3 rfl)) ?_
      refine WO.v 82 rfl rfl (r_indexAddr rfl rfl rfl Try.underlying27 Try.sizeOf54 (by decide) (by omega) (q := 0 + 0) rfl) ?_
      refine WO.v 83 rfl rfl (r_load rfl rfl Try.isAgg54 (H.holeCell p4 rfl)) ?_
      refine WO.v 84 rfl rfl (r_moveI rfl h11) ?_
      refine WO.v 85 rfl rfl (r_indexAddr rfl rfl rfl Try.underlying54 Try.sizeOf55 (by omega) (by omega) (q := 0 + kz) (by rw [Int.toNat_natCast, Nat.mul_one])) ?_
      refine WO.v 86 rfl rfl (r_load rfl rfl Try.isAgg55 (H.holeCell p1 rfl)) ?_
      refine WO.v 87 rfl rfl (r_moveI rfl h12) ?_
      refine WO.v 88 rfl rfl (r_indexAddr rfl rfl rfl Try.underlying55 Try.sizeOf57 (by omega) (by omega) (q := 0 + i * 3) (by rw [Int.toNat_natCast])) ?_
      refine WO.v 89 rfl rfl (r_fieldAddr rfl rfl Try.underlying57 rfl Try.sizeOf3 (q := 0 + i * 3 + 0) rfl) ?_
      refine WO.v 90 rfl rfl (r_load (v := .int .i64 (sl.getD i z57).f0) rfl rfl Try.isAgg3 (row_cells (H.rdC p0) i hi 0 _ rfl)) ?_
      refine WO.slit 91 (ow := oI) (pv := #[(0, .int .i64 (sl.getD i z57).f0)]) [(sl.getD i z57).f0] [[.int .i64 (sl.getD i z57).f0]] rfl rfl rfl rfl (fun w => lit41 (sl.getD i z57).f0 w) rfl (own_one_ rfl) (by show 1 ≤ 4096; decide) H ?_
      intro g6 w6 H6
      refine WO.sappend 92 rfl rfl rfl Try.underlying41 info3i rfl (Nat.succ_pos _) rfl rfl (flat_int _) H6 p3 (H6.rdC p0) (by simp only [List.length_cons, List.length_nil]; omega) (by simp only [List.length_cons, List.length_nil]; omega) ?_
      intro A3 c3 w7 H7
      refine WO.v 10 rfl rfl (r_assignL rfl rfl) ?_
      refine WO.done (Run.blockEnd (Run.regionL [0, 1, 2] rfl ?_))
      refine WO.v 77 rfl rfl (r_moveI rfl h12) ?_
      refine WO.v 78 rfl rfl (r_add rfl rfl rfl (c := (i : Int) + 1) (wrap_in (by omega) (by omega))) ?_
      refine WO.v 12 rfl rfl (r_assignI rfl rfl) ?_
      exact WO.done (ih2 (m2 - 1) _ _ (by omega) ⟨i + 1, _, A3, c3, by omega, by rw [take_snoc sl i hi, List.map_append, ← hfs]; rfl, h2, h4, rfl, h11, rfl, H7.sel (.c q1 (.c q1 (.c q1 (.c q1 (.c q1 (.c q1 (.c q1 .n)))))))⟩)
    · have hfe : fs = goneT now T := by rw [hfs, List.take_of_length_le (by omega)]; exact hgone
      subst hfe
      clear hfs hfl
      refine Run.exit rfl (Run.seq (Run.regionL [0, 1, 2, 3, 4, 5, 6, 7] rfl ?_))
      refine WO.v 93 rfl rfl (r_fieldAddr rfl h4 Try.underlying29 rfl Try.sizeOf27 (q := 0 + 2) rfl) ?_
      refine WO.v 94 rfl rfl (r_load rfl rfl Try.isAgg27 (H.cell p3 rfl)) ?_
      refine WO.v 95 rfl rfl (r_indexAddr rfl rfl rfl Try.underlying27 Try.sizeOf54 (by decide) (by omega) (q := 0 + 0) rfl) ?_
      refine WO.v 96 rfl rfl (r_load rfl rfl Try.isAgg54 (H.holeCell p4 rfl)) ?_
      refine WO.v 97 rfl rfl (r_moveI rfl h11) ?_
      refine WO.slit 98 (ow := o57) [] [] rfl rfl rfl rfl lit55 rfl own_nil_ (by decide) H ?_
      intro g8 w8 H8
      refine WO.v 99 rfl rfl (r_indexAddr rfl rfl rfl Try.underlying54 Try.sizeOf55 (by omega) (by omega) (q := 0 + kz) (by rw [Int.toNat_natCast, Nat.mul_one])) ?_
      refine WO.sfill (j := kz) rfl rfl rfl rfl rfl rfl Try.sizeOf55 rfl (H8.elR p0) p1 (by show 0 + kz = kz * 1; omega) ?_
      intro w10 H10
      have hls : (lev.set kz []).length = lev.length := List.length_set
      rw [← hls] at H10
      have H11 := (H10.sel (.c q1 (.c q1 (.c q1 (.c q1 (.c q1 .n)))))).backR p2
      rw [hend] at H11
      have hll : (deal (now + 1) (stayT now T)).length = lq.length := (deal_len _ _).trans hlq3.symm
      rw [← hll] at H11
      refine WO.done (Run.seq (Run.regionL [0, 1, 2, 3] rfl ?_))
      refine WO.v 100 rfl rfl (r_loadK (vs := [.int .i64 (now + 1), .int .i64 order, .slice (some ⟨gl, 0, none⟩) (deal (now + 1) (stayT now T)).length co]) rfl h4 Try.isAgg29 Try.sizeOf29 rfl (H11.cells p1)) ?_
      refine WO.v 101 rfl rfl (r_moveL rfl h10) ?_
      refine WO.sstoreK (vs := [.int .i64 (now + 1), .int .i64 order, .slice (some ⟨gl, 0, none⟩) (deal (now + 1) (stayT now T)).length co]) rfl rfl rfl h2 rfl rfl rfl Try.sizeOf29 rfl H11 p3 rfl ?_
      intro wS HS
      refine WO.v 3 rfl rfl (r_assignL rfl rfl) ?_
      exact WO.done (Run.ret2 (v2 := .slice AF (goneT now T).length cF) Try.func51 Try.results51 ⟨_, h2, run_loadVarK Try.isAgg29 Try.sizeOf29 rfl (HS.cells p3)⟩ rfl ⟨_, ⟨some ⟨gl, 0, none⟩, co, AF, cF, rfl, rfl⟩, HS.sel (.c q2 (.c q0 .n))⟩)
set_option maxHeartbeats 1000000 in
theorem specTick_tri (now order : Int) (A : Option Addr) (c : Nat) (lv : List (List (List S57))) (w : World) (hr : Kd.C (Kd.slice 55 (Kd.slice 57 k57)) w A lv.length lv) (hc : lv.length ≤ c) (hbig : lv.flatten.flatten.length ≤ 1048576) :
    Tri Try.prog 29 #[.agg #[.int .i64 now, .int .i64 order, .slice A lv.length c]] w [] (TickQ now order lv) := by
  refine tri_of_run0 (fn := Try.f29) (n := 24) Try.func29 rfl Try.ntmps29 (Nat.le_of_ble_eq_true rfl) fun H => ?_
  refine Run.seq (Run.regionL [0, 1, 2, 3] rfl ?_)
  refine WO.sbox 1 (cs := [.int .i64 now, .int .i64 order, .slice A lv.length c]) rfl rfl rfl rfl H ?_
  intro g2 w1 H1
  refine WO.salloc 2 (cs := [.int .i64 0, .int .i64 0, .slice none 0 0]) rfl rfl rfl Try.zeroValue29 rfl H1 ?_
  intro g4 w2 H2
  refine WO.v 3 rfl rfl (r_assignL rfl rfl) ?_
  refine WO.v 4 rfl rfl (r_assignI rfl rfl) ?_
  refine WO.done (Run.seq (Run.seq (Run.regionL [0, 1, 2] rfl ?_)))
  refine WO.v 7 rfl rfl (r_loadK (vs := [.int .i64 now, .int .i64 order, .slice A lv.length c]) rfl rfl Try.isAgg29 Try.sizeOf29 rfl (H2.cells p1)) ?_
  refine WO.call_ 8 rfl rfl Try.call11 (specOK_calls now order A c lv w2 (Kd.C_below hr H2.below) hc hbig) rfl rfl ?_
  rintro e w3 ⟨⟨b, rfl, hb1, hb0⟩, hb3⟩
  refine ⟨_, rfl, ?_⟩
  have H3 := H2.step hb3
  cases b with
  | false =>
    refine WO.v 9 rfl rfl (r_not rfl rfl rfl) ?_
    refine WO.done (Run.condT rfl (Run.seq (Run.regionL [0, 1, 2, 3, 4] rfl ?_)))
    refine WO.v 10 rfl rfl (r_build rfl (build29z _) rfl) ?_
    refine WO.slit 11 (ow := oI) [] [] rfl rfl rfl rfl lit41n rfl own_nil_ (by decide) H3 ?_
    intro g9 w9 H9
    refine WO.sstoreK (vs := [.int .i64 0, .int .i64 0, .slice none 0 0]) rfl rfl rfl rfl rfl rfl rfl Try.sizeOf29 rfl H9 p1 rfl ?_
    intro wS HS
    refine WO.v 3 rfl rfl (r_assignL rfl rfl) ?_
    refine WO.v 4 rfl rfl (r_assignI rfl rfl) ?_
    exact WO.done (Run.ret3 (v2 := .slice (some ⟨g9, 0, none⟩) ([] : List Int).length ([] : List Int).length) (v3 := .int .i64 1) Try.func29 Try.results29 ⟨_, rfl, run_loadVarK Try.isAgg29 Try.sizeOf29 rfl (HS.cells p1)⟩ rfl rfl ⟨_, ⟨0, 0, [], [], 1, none, 0, _, _, rfl, rfl, .inl ⟨hb0 rfl, rfl, rfl, rfl, rfl, rfl⟩⟩, (HS.row_nil o54 54).sel (.c q0 (.c q0 .n))⟩)
  | true =>
    have hG := hb1 rfl
    have hn0 := hG.n0
    have hn1 := hG.n1
    refine WO.v 9 rfl rfl (r_not rfl rfl rfl) ?_
    refine WO.done (Run.condF rfl (Run.skip (Run.seq (Run.seq (Run.regionL [0, 1, 2] rfl ?_)))))
    refine WO.v 12 rfl rfl (r_fieldAddr rfl rfl Try.underlying29 rfl Try.sizeOf3 (q := 0 + 0) rfl) ?_
    refine WO.v 13 rfl rfl (r_load rfl rfl Try.isAgg3 (H3.cell p1 rfl)) ?_
    by_cases hmax : now = 1000000
    · refine WO.v 14 rfl rfl (r_eql rfl rfl rfl (decide_eq_true hmax)) ?_
      refine WO.done (Run.condT rfl (Run.seq (Run.regionL [0, 1, 2, 3, 4] rfl ?_)))
      refine WO.v 15 rfl rfl (r_build rfl (build29z _) rfl) ?_
      refine WO.slit 16 (ow := oI) [] [] rfl rfl rfl rfl lit41n rfl own_nil_ (by decide) H3 ?_
      intro g9 w9 H9
      refine WO.sstoreK (vs := [.int .i64 0, .int .i64 0, .slice none 0 0]) rfl rfl rfl rfl rfl rfl rfl Try.sizeOf29 rfl H9 p1 rfl ?_
      intro wS HS
      refine WO.v 3 rfl rfl (r_assignL rfl rfl) ?_
      refine WO.v 4 rfl rfl (r_assignI rfl rfl) ?_
      exact WO.done (Run.ret3 (v2 := .slice (some ⟨g9, 0, none⟩) ([] : List Int).length ([] : List Int).length) (v3 := .int .i64 4) Try.func29 Try.results29 ⟨_, rfl, run_loadVarK Try.isAgg29 Try.sizeOf29 rfl (HS.cells p1)⟩ rfl rfl ⟨_, ⟨0, 0, [], [], 4, none, 0, _, _, rfl, rfl, .inr (.inl ⟨hG, hmax, rfl, rfl, rfl, rfl, rfl⟩)⟩, (HS.row_nil o54 54).sel (.c q0 (.c q0 .n))⟩)
    · refine WO.v 14 rfl rfl (r_eql rfl rfl rfl (decide_eq_false hmax)) ?_
      obtain ⟨T, hp, hso⟩ := exists_sorted lv.flatten.flatten
      refine WO.done (Run.condF rfl (Run.skip (Run.seq (Run.regionL [0, 1, 2, 3, 4, 5, 6, 7] rfl ?_))))
      refine WO.v 18 rfl rfl (r_loadK (vs := [.int .i64 now, .int .i64 order, .slice A lv.length c]) rfl rfl Try.isAgg29 Try.sizeOf29 rfl (H3.cells p1)) ?_
      refine WO.scall 19 rfl rfl Try.call51 H3 .n (l11Tick_tri now order A c lv T w3 (Kd.C_below hr H3.below) hG hmax hp hso) rfl rfl ?_
      rintro e LQ w4 ⟨A4, c4, B4, k4, rfl, rfl⟩ H4
      refine ⟨_, rfl, ?_⟩
      refine WO.v 17 rfl rfl (r_moveT rfl rfl) ?_
      refine WO.v 20 rfl rfl (r_extract rfl rfl rfl) ?_
      refine WO.v 21 rfl rfl (r_extract rfl rfl rfl) ?_
      refine WO.salloc 5 (cs := [.int .i64 0, .int .i64 0, .slice none 0 0]) rfl rfl rfl Try.zeroValue29 rfl H4 ?_
      intro g8 w5 H5
      refine WO.sstoreK (vs := [.int .i64 (now + 1), .int .i64 order, .slice A4 (deal (now + 1) (stayT now T)).length c4]) rfl rfl rfl rfl rfl rfl rfl Try.sizeOf29 rfl H5 p0 rfl ?_
      intro w6 H6
      refine WO.v 6 rfl rfl (r_assignL rfl rfl) ?_
      refine WO.done (Run.seq (Run.regionL [0, 1, 2, 3, 4] rfl ?_))
      refine WO.v 22 rfl rfl (r_loadK (vs := [.int .i64 (now + 1), .int .i64 order, .slice A4 (deal (now + 1) (stayT now T)).length c4]) rfl rfl Try.isAgg29 Try.sizeOf29 rfl (H6.cells p0)) ?_
      refine WO.v 23 rfl rfl (r_moveL rfl rfl) ?_
      refine WO.sstoreK (vs := [.int .i64 (now + 1), .int .i64 order, .slice A4 (deal (now + 1) (stayT now T)).length c4]) rfl rfl rfl rfl rfl rfl rfl Try.sizeOf29 rfl H6 p3 rfl ?_
      intro wS HS
      refine WO.v 3 rfl rfl (r_assignL rfl rfl) ?_
      refine WO.v 4 rfl rfl (r_assignI rfl rfl) ?_
      exact WO.done (Run.ret3 (v2 := .slice B4 (goneT now T).length k4) (v3 := .int .i64 0) Try.func29 Try.results29 ⟨_, rfl, run_loadVarK Try.isAgg29 Try.sizeOf29 rfl (HS.cells p3)⟩ rfl rfl ⟨_, ⟨now + 1, order, _, _, 0, A4, c4, B4, k4, rfl, rfl, .inr (.inr ⟨hG, hmax, rfl, rfl, ⟨T, hp, hso, rfl, rfl⟩, rfl⟩)⟩, HS.sel (.c q1 (.c q1 .n))⟩)
end Go.Proofs.Ytojpimpfpjhflaa.Wh
