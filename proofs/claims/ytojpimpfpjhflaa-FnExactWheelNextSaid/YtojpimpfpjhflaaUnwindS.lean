/- The wheel: what unwind comes to. Printed by unwind.py. -/
import Derived.Test.YtojpimpfpjhflaaUwp
namespace Go.Proofs.Ytojpimpfpjhflaa.Wh
open Go.RowKit Go.Proofs.Ytojpimpfpjhflaa.Fw Go.Proofs.YtojpimpfpjhflaaW.PrintWords Go.Proofs.Ytojpimpfpjhflaa.PFnExactWheelOK
set_option linter.unusedVariables false
set_option linter.unusedSimpArgs false

theorem build69 (a b : Int) (w : World) : (Instr.build 69 #[(0, .int .i64 a), (1, .int .i64 b)]).run Try.prog w = .ok (.agg #[.int .i64 a, .int .i64 b, .slice none 0 0]) w := by kernel_rfl
theorem pref_le (lv : List (List (List S57))) (j s : Nat) (hj : j < lv.length) (hs : s < (lv.getD j []).length) : ((lv.take j).flatten.flatten ++ ((lv.getD j []).take s).flatten).length + ((lv.getD j []).getD s []).length ≤ lv.flatten.flatten.length := by
  have e1 : lv.flatten.flatten.length = (lv.take (j + 1)).flatten.flatten.length + (lv.drop (j + 1)).flatten.flatten.length := by
    conv => lhs; rw [← List.take_append_drop (j + 1) lv, List.flatten_append, List.flatten_append, List.length_append]
  have e2 := take_flat lv j hj
  have e3 := flat_le (lv.getD j []) (s + 1)
  rw [take_flat _ s hs, List.length_append] at e3
  rw [e1, e2, List.flatten_append, List.length_append, List.length_append]
  omega

set_option maxHeartbeats 1000000 in
theorem unwind_tri (hsort : SortRw) (now order : Int) (A : Option Addr) (c : Nat) (lv : List (List (List S57))) (w : World) (hr : Kd.C (Kd.slice 55 (Kd.slice 57 k57)) w A lv.length lv) (hbig : lv.flatten.flatten.length ≤ 1048576) :
    Tri Try.prog 38 #[.agg #[.int .i64 now, .int .i64 order, .slice A lv.length c]] w [] (UQ now order lv) := by
  refine tri_of_run0 (fn := Try.f38) (n := 109) Try.func38 rfl Try.ntmps38 (Nat.le_of_ble_eq_true rfl) fun H => ?_
  refine Run.seq (Run.regionL [0, 1, 2] rfl ?_)
  refine WO.sbox 1 (cs := [.int .i64 now, .int .i64 order, .slice A lv.length c]) rfl rfl rfl rfl H ?_
  intro g1 w1 H1
  refine WO.salloc 2 (cs := [.int .i64 0, .int .i64 0, .slice none 0 0]) rfl rfl rfl Try.zeroValue69 rfl H1 ?_
  intro g2 w2 H2
  refine WO.v 3 rfl rfl (r_assignB rfl rfl) ?_
  refine WO.done (Run.seq (Run.regionL [0, 1, 2, 3, 4, 5, 6] rfl ?_))
  refine WO.v 11 rfl rfl (r_fieldAddr rfl rfl Try.underlying29 rfl Try.sizeOf3 rfl) ?_
  refine WO.v 12 rfl rfl (r_load rfl rfl Try.isAgg3 (H2.cell p1 rfl)) ?_
  refine WO.v 13 rfl rfl (r_fieldAddr rfl rfl Try.underlying29 rfl Try.sizeOf3 rfl) ?_
  refine WO.v 14 rfl rfl (r_load rfl rfl Try.isAgg3 (H2.cell p1 rfl)) ?_
  refine WO.v 15 rfl rfl (r_build rfl (build69 now order _) rfl) ?_
  refine WO.salloc 4 (cs := [.int .i64 0, .int .i64 0, .slice none 0 0]) rfl rfl rfl Try.zeroValue69 rfl H2 ?_
  intro g4 w4 H4
  refine WO.sstoreK (vs := [.int .i64 now, .int .i64 order, .slice none 0 0]) rfl rfl rfl rfl rfl rfl rfl Try.sizeOf69 rfl H4 p0 rfl ?_
  intro w5 H5'
  have H5 := H5'.row_nil o57 57
  clear H H1 H2 H4 H5'
  refine WO.done (Run.seq (Run.seq (Run.regionL [0, 1, 2, 3, 4, 5, 6, 7, 8, 9, 10, 11, 12, 13, 14, 15] rfl ?_)))
  refine WO.v 16 rfl rfl (r_fieldAddr rfl rfl Try.underlying29 rfl Try.sizeOf3 rfl) ?_
  refine WO.v 17 rfl rfl (r_load rfl rfl Try.isAgg3 (H5.cell p3 rfl)) ?_
  refine WO.call_ 18 rfl rfl Try.call45 (inRange_calls now 0 1000000 w5) rfl rfl ?_
  rintro e w6 ⟨rfl, rfl⟩
  refine ⟨_, rfl, ?_⟩
  by_cases hn : 0 ≤ now ∧ now ≤ 1000000
  · rw [decide_eq_true hn]
    refine WO.v 19 rfl rfl (r_not rfl rfl rfl) ?_
    refine WO.v 20 rfl rfl (r_moveB rfl rfl) ?_
    refine WO.v 21 rfl rfl (r_fieldAddr rfl rfl Try.underlying29 rfl Try.sizeOf3 rfl) ?_
    refine WO.v 22 rfl rfl (r_load rfl rfl Try.isAgg3 (H5.cell p3 rfl)) ?_
    refine WO.call_ 23 rfl rfl Try.call45 (inRange_calls order 0 1000000 w6) rfl rfl ?_
    rintro e w7 ⟨rfl, rfl⟩
    refine ⟨_, rfl, ?_⟩
    by_cases ho : 0 ≤ order ∧ order ≤ 1000000
    · rw [decide_eq_true ho]
      refine WO.v 24 rfl rfl (r_not rfl rfl rfl) ?_
      refine WO.v 25 rfl rfl (r_pickB rfl rfl rfl) ?_
      refine WO.v 26 rfl rfl (r_moveB rfl rfl) ?_
      refine WO.v 27 rfl rfl (r_fieldAddr rfl rfl Try.underlying29 rfl Try.sizeOf27 rfl) ?_
      refine WO.v 28 rfl rfl (r_load rfl rfl Try.isAgg27 (H5.cell p3 rfl)) ?_
      refine WO.v 29 rfl rfl (r_len (e := 54) rfl rfl Try.underlying27) ?_
      by_cases h3 : (lv.length : Int) = 3
      · refine WO.v 30 rfl rfl (r_neq rfl rfl rfl (decide_eq_false (fun h => h h3))) ?_
        refine WO.v 31 rfl rfl (r_pickB rfl rfl rfl) ?_
        refine WO.done (Run.condF rfl (Run.skip (Run.seq (Run.seq (Run.regionL [0, 1, 2, 3] rfl ?_)))))
        refine WO.v 33 rfl rfl (r_fieldAddr rfl rfl Try.underlying29 rfl Try.sizeOf27 rfl) ?_
        refine WO.v 34 rfl rfl (r_load rfl rfl Try.isAgg27 (H5.cell p3 rfl)) ?_
        refine WO.v 35 rfl rfl (r_len (e := 54) rfl rfl Try.underlying27) ?_
        refine WO.v 36 rfl rfl (r_moveI rfl rfl) ?_
        refine WO.done (Run.block ?_)
        refine Run.loopInv (fun m τ wr => ∃ (j : Nat) (A' : Option Addr) (c' : Nat) (ts : List S57), j + m = 3 ∧ τ 1 = .pointer (some ⟨g1, 0, none⟩) ∧ τ 2 = .pointer (some ⟨g2, 0, none⟩) ∧ τ 4 = .pointer (some ⟨g4, 0, none⟩) ∧ τ 34 = .slice A lv.length c ∧ τ 35 = .int .i64 lv.length ∧ τ 36 = .int .i64 j ∧
            St w Em [RT A' c' ts, Bk g4 [.int .i64 now, .int .i64 order, .slice A' ts.length c'] 69, Bk g2 [.int .i64 0, .int .i64 0, .slice none 0 0] 69, Bk g1 [.int .i64 now, .int .i64 order, .slice A lv.length c] 29] wr ∧
            ts = (lv.take j).flatten.flatten ∧ ts.length ≤ 60 ∧ ∀ l, l < j → levelB now order l (lv.getD l [])) 3 ⟨0, none, 0, [], by omega, rfl, rfl, rfl, rfl, rfl, rfl, H5, rfl, by simp, fun l hl => absurd hl (Nat.not_lt_zero _)⟩ ?_
        clear H5
        rintro m τ wr ih ⟨j, A', c', ts, hm, h1, h2, h4, h34, h35, h36, H, hts, hfew, hlev⟩
        refine Run.seq (Run.regionL [0] rfl ?_)
        refine WO.v 37 rfl rfl (r_lss rfl h36 h35 rfl) ?_
        refine WO.done (Run.seq (Run.test rfl (fun hq => ?_) (fun hq => ?_)))
        · have hj : j < lv.length := by omega
          obtain ⟨b1, o1, A1, c1, rfl, hb1, hc1, hcc1, hr1⟩ := slice_at hr j hj
          have hlen1 : (lv.getD j []).length ≤ 9223372036854775807 := hr1.2.1
          refine Run.skip (Run.seq (Run.block (Run.seq (Run.regionL [0, 1, 2, 3, 4] rfl ?_))))
          refine WO.v 38 rfl rfl (r_moveI rfl h36) ?_
          refine WO.v 39 rfl rfl (r_indexAddr rfl h34 h36 Try.underlying27 Try.sizeOf54 (by omega) (by omega) (q := o1 + j) (by rw [Int.toNat_natCast, Nat.mul_one])) ?_
          refine WO.v 40 rfl rfl (r_load rfl rfl Try.isAgg54 ((H.below.cell (p := ⟨b1, o1 + j, none⟩) hb1).trans hc1)) ?_
          refine WO.v 5 rfl rfl (r_assignI rfl rfl) ?_
          refine WO.v 6 rfl rfl (r_assignL rfl rfl) ?_
          refine WO.done (Run.seq (Run.seq (Run.regionL [0, 1, 2] rfl ?_)))
          refine WO.v 41 rfl rfl (r_moveL rfl rfl) ?_
          refine WO.v 42 rfl rfl (r_len (e := 55) rfl rfl Try.underlying54) ?_
          by_cases h8 : ((lv.getD j []).length : Int) = 8
          · refine WO.v 43 rfl rfl (r_neq rfl rfl rfl (decide_eq_false (fun h => h h8))) ?_
            refine WO.done (Run.condF rfl (Run.skip (Run.seq (Run.regionL [0, 1, 2] rfl ?_))))
            refine WO.v 45 rfl rfl (r_moveL rfl rfl) ?_
            refine WO.v 46 rfl rfl (r_len (e := 55) rfl rfl Try.underlying54) ?_
            refine WO.v 47 rfl rfl (r_moveI rfl rfl) ?_
            refine WO.done (Run.block ?_)
            refine Run.loopInv (fun m τ wr => ∃ (s : Nat) (A' : Option Addr) (c' : Nat) (ts : List S57), s + m = 8 ∧ τ 1 = .pointer (some ⟨g1, 0, none⟩) ∧ τ 2 = .pointer (some ⟨g2, 0, none⟩) ∧ τ 4 = .pointer (some ⟨g4, 0, none⟩) ∧ τ 34 = .slice (some ⟨b1, o1, none⟩) lv.length c ∧ τ 35 = .int .i64 lv.length ∧ τ 36 = .int .i64 j ∧
                τ 5 = .int .i64 j ∧ τ 45 = .slice A1 (lv.getD j []).length c1 ∧ τ 46 = .int .i64 (lv.getD j []).length ∧ τ 47 = .int .i64 s ∧
                St w Em [RT A' c' ts, Bk g4 [.int .i64 now, .int .i64 order, .slice A' ts.length c'] 69, Bk g2 [.int .i64 0, .int .i64 0, .slice none 0 0] 69, Bk g1 [.int .i64 now, .int .i64 order, .slice (some ⟨b1, o1, none⟩) lv.length c] 29] wr ∧
                ts = (lv.take j).flatten.flatten ++ ((lv.getD j []).take s).flatten ∧ ts.length ≤ 60 ∧ ∀ s' : Nat, s' < s → slotB now order j s' 0 ((lv.getD j []).getD s' []) = true) 8 ⟨0, A', c', ts, by omega, h1, h2, h4, h34, h35, h36, rfl, rfl, rfl, rfl, H, by simp [hts], hfew, fun l hl => absurd hl (Nat.not_lt_zero _)⟩ ?_
            clear H h1 h2 h4 h34 h35 h36 hts hfew ts A' c'
            rintro m2 τ wr ih2 ⟨s, A', c', ts, hm2, h1, h2, h4, h34, h35, h36, h5, h45, h46, h47, H, hts, hfew, hsl⟩
            refine Run.seq (Run.regionL [0] rfl ?_)
            refine WO.v 48 rfl rfl (r_lss rfl h47 h46 rfl) ?_
            refine WO.done (Run.seq (Run.test rfl (fun hq2 => ?_) (fun hq2 => ?_)))
            · have hs : s < (lv.getD j []).length := by omega
              obtain ⟨b2, o2, A2, c2, rfl, hb2, hc2, hcc2, hr2⟩ := slice_at hr1 s hs
              have hpre := pref_le lv j s hj hs
              rw [← hts] at hpre
              have hlen2 : ((lv.getD j []).getD s []).length ≤ 9223372036854775807 := hr2.2.1
              have hslot := slotOK_calls now order (some ⟨b1, o1, none⟩) c lv j s wr (Kd.C_below hr H.below) hn.1 hn.2 ho.2 hj hs
              refine Run.skip (Run.seq (Run.block (Run.seq (Run.regionL [0, 1, 2, 3, 4] rfl ?_))))
              refine WO.v 49 rfl rfl (r_moveI rfl h47) ?_
              refine WO.v 50 rfl rfl (r_indexAddr rfl h45 h47 Try.underlying54 Try.sizeOf55 (by omega) (by omega) (q := o2 + s) (by rw [Int.toNat_natCast, Nat.mul_one])) ?_
              refine WO.v 51 rfl rfl (r_load rfl rfl Try.isAgg55 ((H.below.cell (p := ⟨b2, o2 + s, none⟩) hb2).trans hc2)) ?_
              refine WO.v 7 rfl rfl (r_assignI rfl rfl) ?_
              refine WO.v 8 rfl rfl (r_assignL rfl rfl) ?_
              refine WO.done (Run.seq (Run.seq (Run.regionL [0, 1, 2, 3, 4, 5, 6, 7, 8, 9, 10, 11, 12, 13] rfl ?_)))
              refine WO.v 52 rfl rfl (r_fieldAddr rfl h4 Try.underlying69 rfl Try.sizeOf55 rfl) ?_
              refine WO.v 53 rfl rfl (r_load rfl rfl Try.isAgg55 (H.cell p1 rfl)) ?_
              refine WO.v 54 rfl rfl (r_len (e := 57) rfl rfl Try.underlying55) ?_
              refine WO.v 55 rfl rfl (r_moveL rfl rfl) ?_
              refine WO.v 56 rfl rfl (r_len (e := 57) rfl rfl Try.underlying55) ?_
              refine WO.v 57 rfl rfl (r_add rfl rfl rfl (wrap_in (by omega) (by omega))) ?_
              by_cases h60 : (60 : Int) < (ts.length : Int) + (((lv.getD j []).getD s []).length : Int)
              · refine WO.v 58 rfl rfl (r_gtr rfl rfl rfl (decide_eq_true h60)) ?_
                refine WO.v 59 rfl rfl (r_moveB rfl rfl) ?_
                refine WO.x 60 rfl rfl ?_
                refine WO.x 61 rfl rfl ?_
                refine WO.x 62 rfl rfl ?_
                refine WO.x 63 rfl rfl ?_
                refine WO.x 64 rfl rfl ?_
                refine WO.v 65 rfl rfl (r_pickB rfl rfl rfl) ?_
                refine WO.done (Run.condT rfl (Run.seq (Run.regionL [0, 1, 2] rfl ?_)))
                refine WO.v 66 rfl rfl (r_loadK (vs := [.int .i64 now, .int .i64 order, .slice A' ts.length c']) rfl h4 Try.isAgg69 Try.sizeOf69 rfl (H.cells p1)) ?_
                refine WO.sstoreK (vs := [.int .i64 now, .int .i64 order, .slice A' ts.length c']) rfl rfl rfl h2 rfl rfl rfl Try.sizeOf69 rfl H p2 rfl ?_
                intro wS HS
                refine WO.v 3 rfl rfl (r_assignB rfl rfl) ?_
                exact WO.done (Run.ret2 (v2 := .bool false) Try.func38 Try.results38 ⟨_, h2, run_loadVarK Try.isAgg69 Try.sizeOf69 rfl (HS.cells p2)⟩ rfl ⟨[RT A' c' ts], ⟨A', c', ts, false, rfl, rfl, fun h => Bool.noConfusion h, fun _ => fun hG => by have := hG.few; omega⟩, HS.sel (.c q0 .n)⟩)
              · refine WO.v 58 rfl rfl (r_gtr rfl rfl rfl (decide_eq_false h60)) ?_
                refine WO.v 59 rfl rfl (r_moveB rfl rfl) ?_
                refine WO.v 60 rfl rfl (r_loadK (vs := [.int .i64 now, .int .i64 order, .slice (some ⟨b1, o1, none⟩) lv.length c]) rfl h1 Try.isAgg29 Try.sizeOf29 rfl (H.cells p3)) ?_
                refine WO.v 61 rfl rfl (r_moveI rfl h5) ?_
                refine WO.v 62 rfl rfl (r_moveI rfl rfl) ?_
                refine WO.call_ 63 rfl rfl Try.call57 hslot rfl rfl ?_
                rintro e w2 ⟨rfl, hbw⟩
                refine ⟨_, rfl, ?_⟩
                have H' := H.step hbw
                clear hslot
                cases hsb : slotB now order j s 0 ((lv.getD j []).getD s [])
                · refine WO.v 64 rfl rfl (r_not rfl rfl rfl) ?_
                  refine WO.v 65 rfl rfl (r_pickB rfl rfl rfl) ?_
                  refine WO.done (Run.condT rfl (Run.seq (Run.regionL [0, 1, 2] rfl ?_)))
                  refine WO.v 66 rfl rfl (r_loadK (vs := [.int .i64 now, .int .i64 order, .slice A' ts.length c']) rfl h4 Try.isAgg69 Try.sizeOf69 rfl (H'.cells p1)) ?_
                  refine WO.sstoreK (vs := [.int .i64 now, .int .i64 order, .slice A' ts.length c']) rfl rfl rfl h2 rfl rfl rfl Try.sizeOf69 rfl H' p2 rfl ?_
                  intro wS HS
                  refine WO.v 3 rfl rfl (r_assignB rfl rfl) ?_
                  exact WO.done (Run.ret2 (v2 := .bool false) Try.func38 Try.results38 ⟨_, h2, run_loadVarK Try.isAgg69 Try.sizeOf69 rfl (HS.cells p2)⟩ rfl ⟨[RT A' c' ts], ⟨A', c', ts, false, rfl, rfl, fun h => Bool.noConfusion h, fun _ => fun hG => by have := (hG.level j (by omega)).2 s (by omega); rw [hsb] at this; cases this⟩, HS.sel (.c q0 .n)⟩)
                · refine WO.v 64 rfl rfl (r_not rfl rfl rfl) ?_
                  refine WO.v 65 rfl rfl (r_pickB rfl rfl rfl) ?_
                  refine WO.done (Run.condF rfl (Run.skip (Run.regionL [0, 1, 2, 3, 4, 5] rfl ?_)))
                  refine WO.v 67 rfl rfl (r_fieldAddr rfl h4 Try.underlying69 rfl Try.sizeOf55 rfl) ?_
                  refine WO.v 68 rfl rfl (r_load rfl rfl Try.isAgg55 (H'.cell p1 rfl)) ?_
                  refine WO.v 69 rfl rfl (r_moveL rfl rfl) ?_
                  refine WO.sappend 70 rfl rfl rfl Try.underlying55 info57 rfl (Nat.succ_pos 2) rfl rfl flat57 H' p0 (Kd.C_below hr2 H'.below) (by omega) (by omega) ?_
                  intro A3 c3 w3 H3
                  refine WO.v 71 rfl rfl (r_fieldAddr rfl h4 Try.underlying69 rfl Try.sizeOf55 (q := 2) rfl) ?_
                  refine WO.sstore rfl rfl rfl rfl rfl rfl Try.sizeOf55 H3 p1 (.s (.s .z)) ?_
                  intro w4 H4
                  refine WO.done (Run.blockEnd (Run.regionL [0, 1] rfl ?_))
                  refine WO.v 72 rfl rfl (r_add rfl h47 rfl (c := (s : Int) + 1) (wrap_in (by omega) (by omega))) ?_
                  refine WO.v 47 rfl rfl (r_moveI rfl rfl) ?_
                  refine WO.done (ih2 (m2 - 1) _ _ (by omega) ⟨s + 1, A3, c3, ts ++ (lv.getD j []).getD s [], by omega, h1, h2, h4, h34, h35, h36, h5, h45, h46, rfl, H4, ?_, by rw [List.length_append]; omega, fun s' hs' => ?_⟩)
                  · rw [hts, take_flat _ s hs, List.append_assoc]
                  · by_cases e : s' = s
                    · rw [e]; exact hsb
                    · exact hsl s' (by omega)
            · have hs8 : s = 8 := by omega
              refine Run.exit rfl (Run.blockEnd (Run.regionL [0, 1] rfl ?_))
              refine WO.v 73 rfl rfl (r_add rfl h36 rfl (c := (j : Int) + 1) (wrap_in (by omega) (by omega))) ?_
              refine WO.v 36 rfl rfl (r_moveI rfl rfl) ?_
              refine WO.done (ih (m - 1) _ _ (by omega) ⟨j + 1, A', c', ts, by omega, h1, h2, h4, h34, h35, rfl, H, ?_, hfew, fun l hl => ?_⟩)
              · rw [hts, take_flat lv j hj, List.flatten_append, List.take_of_length_le (show (lv.getD j []).length ≤ s by omega)]
              · by_cases e : l = j
                · rw [e]; exact ⟨by omega, fun s' hs' => hsl s' (by omega)⟩
                · exact hlev l (by omega)
          · refine WO.v 43 rfl rfl (r_neq rfl rfl rfl (decide_eq_true h8)) ?_
            refine WO.done (Run.condT rfl (Run.seq (Run.regionL [0, 1, 2] rfl ?_)))
            refine WO.v 44 rfl rfl (r_loadK (vs := [.int .i64 now, .int .i64 order, .slice A' ts.length c']) rfl h4 Try.isAgg69 Try.sizeOf69 rfl (H.cells p1)) ?_
            refine WO.sstoreK (vs := [.int .i64 now, .int .i64 order, .slice A' ts.length c']) rfl rfl rfl h2 rfl rfl rfl Try.sizeOf69 rfl H p2 rfl ?_
            intro wS HS
            refine WO.v 3 rfl rfl (r_assignB rfl rfl) ?_
            exact WO.done (Run.ret2 (v2 := .bool false) Try.func38 Try.results38 ⟨_, h2, run_loadVarK Try.isAgg69 Try.sizeOf69 rfl (HS.cells p2)⟩ rfl ⟨[RT A' c' ts], ⟨A', c', ts, false, rfl, rfl, fun h => Bool.noConfusion h, fun _ => fun hG => h8 (by have := (hG.level j (by omega)).1; omega)⟩, HS.sel (.c q0 .n)⟩)
        · have hj3 : j = 3 := by omega
          have hts' : ts = lv.flatten.flatten := by rw [hts, List.take_of_length_le (show lv.length ≤ j by omega)]
          have hord : ∀ x ∈ ts, 0 ≤ x.f2 ∧ x.f2 ≤ 1000000 := by
            intro x hx
            rw [hts'] at hx
            obtain ⟨l, hl, hx⟩ := List.mem_flatten.1 hx
            obtain ⟨lvl, hlvl, hl⟩ := List.mem_flatten.1 hl
            obtain ⟨a, ha, rfl⟩ := List.getElem_of_mem hlvl
            obtain ⟨b, hb, rfl⟩ := List.getElem_of_mem hl
            have h := hlev a (by omega)
            have e1 : lv.getD a [] = lv[a] := by simp [List.getD_eq_getElem?_getD, List.getElem?_eq_getElem ha]
            rw [e1] at h
            have h' := h.2 b (by have := h.1; omega)
            have e2 : (lv[a]).getD b [] = (lv[a])[b] := by simp [List.getD_eq_getElem?_getD, List.getElem?_eq_getElem hb]
            rw [e2] at h'
            have := slotB_orders now order _ _ 0 _ (by omega) h' x hx
            omega
          refine Run.exit rfl (Run.seq (Run.regionL [0, 1, 2] rfl ?_))
          refine WO.v 74 rfl rfl (r_fieldAddr rfl h4 Try.underlying69 rfl Try.sizeOf55 rfl) ?_
          refine WO.v 75 rfl rfl (r_load rfl rfl Try.isAgg55 (H.cell p1 rfl)) ?_
          refine WO.scall 76 rfl rfl Try.call58 H (.c q0 .n) (hsort A' c' ts _ hord hfew) rfl rfl ?_
          rintro e LQ w2 ⟨rfl, us, hp, hsorted, rfl⟩ H2
          refine ⟨_, rfl, ?_⟩
          have H3 : St w Em [RT A' c' us, Bk g4 [.int .i64 now, .int .i64 order, .slice A' us.length c'] 69, Bk g2 [.int .i64 0, .int .i64 0, .slice none 0 0] 69] w2 := by
            rw [hp.length_eq]; exact H2.sel (.c q0 (.c q0 (.c q0 .n)))
          clear H H2
          refine WO.done (Run.seq (Run.seq (Run.regionL [0, 1, 2, 3] rfl ?_)))
          refine WO.v 77 rfl rfl (r_fieldAddr rfl h4 Try.underlying69 rfl Try.sizeOf55 rfl) ?_
          refine WO.v 78 rfl rfl (r_load rfl rfl Try.isAgg55 (H3.cell p1 rfl)) ?_
          refine WO.v 79 rfl rfl (r_len (e := 57) rfl rfl Try.underlying55) ?_
          refine WO.v 80 rfl rfl (r_moveI rfl rfl) ?_
          refine WO.done (Run.block ?_)
          have hul : us.length ≤ 60 := by rw [hp.length_eq]; exact hfew
          have nogood : ∀ i, i < us.length → ¬ TOK us i → ¬ Good now order lv := fun i hi ht hG => not_tok us i hi ht ⟨(hp.map _).nodup_iff.2 (by rw [hts']; exact hG.ids), (hp.map _).nodup_iff.2 (by rw [hts']; exact hG.orders)⟩
          refine Run.loopInv (fun m τ wr => ∃ (i : Nat), i + m = us.length ∧ τ 2 = .pointer (some ⟨g2, 0, none⟩) ∧ τ 4 = .pointer (some ⟨g4, 0, none⟩) ∧ τ 78 = .slice A' us.length c' ∧ τ 79 = .int .i64 us.length ∧ τ 80 = .int .i64 i ∧
              St w Em [RT A' c' us, Bk g4 [.int .i64 now, .int .i64 order, .slice A' us.length c'] 69, Bk g2 [.int .i64 0, .int .i64 0, .slice none 0 0] 69] wr ∧ ∀ i', i' < i → TOK us i') us.length ⟨0, by omega, h2, h4, rfl, rfl, rfl, H3, fun l hl => absurd hl (Nat.not_lt_zero _)⟩ ?_
          clear H3 h1 h2 h4 h34 h35 h36 ih
          rintro m2 τ wr ih ⟨i, hm2, h2, h4, h78, h79, h80, H, htok⟩
          refine Run.seq (Run.regionL [0] rfl ?_)
          refine WO.v 81 rfl rfl (r_lss rfl h80 h79 rfl) ?_
          refine WO.done (Run.seq (Run.test rfl (fun hq2 => ?_) (fun hq2 => ?_)))
          · have hi : i < us.length := by omega
            obtain ⟨gg, rfl, hgg⟩ := H.lies p0 (by omega)
            refine Run.skip (Run.seq (Run.block (Run.seq (Run.regionL [0, 1, 2, 3, 4, 5] rfl ?_))))
            refine WO.v 82 rfl rfl (r_moveI rfl h80) ?_
            refine WO.v 83 rfl rfl (r_indexAddr rfl h78 h80 Try.underlying55 Try.sizeOf57 (by omega) hq2 (q := 0 + i * 3) (by rw [Int.toNat_natCast])) ?_
            refine WO.v 84 rfl rfl (r_loadK (vs := [.int .i64 (us.getD i z57).f0, .int .i64 (us.getD i z57).f1, .int .i64 (us.getD i z57).f2]) rfl rfl Try.isAgg57 Try.sizeOf57 rfl (row_cells (H.rdC p0) i hi)) ?_
            refine WO.salloc 10 (cs := [.int .i64 0, .int .i64 0, .int .i64 0]) rfl rfl rfl Try.zeroValue57 rfl H ?_
            intro g10 w10 H10
            refine WO.v 9 rfl rfl (r_assignI rfl rfl) ?_
            refine WO.sstoreK (vs := [.int .i64 (us.getD i z57).f0, .int .i64 (us.getD i z57).f1, .int .i64 (us.getD i z57).f2]) rfl rfl rfl rfl rfl rfl rfl Try.sizeOf57 rfl H10 p0 rfl ?_
            intro w11 H11
            have hf : ∀ W, St w Em [Bk g10 [.int .i64 (us.getD i z57).f0, .int .i64 (us.getD i z57).f1, .int .i64 (us.getD i z57).f2] 57, RT (some ⟨gg, 0, none⟩) c' us, Bk g4 [.int .i64 now, .int .i64 order, .slice (some ⟨gg, 0, none⟩) us.length c'] 69, Bk g2 [.int .i64 0, .int .i64 0, .slice none 0 0] 69] W → Calls Try.prog 60 #[.pointer (some ⟨g4, 0, none⟩), .int .i64 (us.getD i z57).f0] W fun e w' => e = .returned (.int .i64 (fidx (us.getD i z57).f0 us)) ∧
                St w Em [Bk g10 [.int .i64 (us.getD i z57).f0, .int .i64 (us.getD i z57).f1, .int .i64 (us.getD i z57).f2] 57, RT (some ⟨gg, 0, none⟩) c' us, Bk g4 [.int .i64 now, .int .i64 order, .slice (some ⟨gg, 0, none⟩) us.length c'] 69, Bk g2 [.int .i64 0, .int .i64 0, .slice none 0 0] 69] w' := fun W hW =>
              (find_calls g4 (us.getD i z57).f0 (some ⟨gg, 0, none⟩) c' us W (hW.cell p2 rfl) (hW.rdC p1)).mono fun e w' h => ⟨h.1, hW.step h.2⟩
            refine WO.done (Run.seq (Run.quiet _ (by kernel_rfl) (by kernel_rfl) (H11.step ⟨rfl, rfl, rfl, Nat.le_refl _, fun _ _ => rfl⟩) _ rfl ?_))
            refine WQ.v 85 rfl (fun W hW => r_moveI rfl rfl) ?_
            by_cases h0 : (0 : Int) < (i : Int)
            · refine WQ.v 86 rfl (fun W hW => r_gtr rfl rfl rfl (decide_eq_true h0)) ?_
              refine WQ.v 87 rfl (fun W hW => r_moveB rfl rfl) ?_
              refine WQ.v 88 rfl (fun W hW => r_fieldAddr rfl h4 Try.underlying69 rfl Try.sizeOf55 rfl) ?_
              refine WQ.v 89 rfl (fun W hW => r_load rfl rfl Try.isAgg55 (hW.cell p2 rfl)) ?_
              refine WQ.v 90 rfl (fun W hW => r_moveI rfl rfl) ?_
              refine WQ.v 91 rfl (fun W hW => r_sub rfl rfl rfl (c := ((i - 1 : Nat) : Int)) ((wrap_in (by omega) (by omega)).trans (by omega))) ?_
              refine WQ.v 92 rfl (fun W hW => r_indexAddr rfl rfl rfl Try.underlying55 Try.sizeOf57 (by omega) (by omega) (q := 0 + (i - 1) * 3) (by rw [Int.toNat_natCast])) ?_
              refine WQ.v 93 rfl (fun W hW => r_fieldAddr rfl rfl Try.underlying57 rfl Try.sizeOf3 (q := 0 + (i - 1) * 3 + 2) rfl) ?_
              refine WQ.v 94 rfl (fun W hW => r_load (v := .int .i64 (us.getD (i - 1) z57).f2) rfl rfl Try.isAgg3 (row_cells (hW.rdC p1) (i - 1) (by omega) 2 _ rfl)) ?_
              refine WQ.v 95 rfl (fun W hW => r_fieldAddr rfl rfl Try.underlying57 rfl Try.sizeOf3 rfl) ?_
              refine WQ.v 96 rfl (fun W hW => r_load rfl rfl Try.isAgg3 (hW.cell p0 rfl)) ?_
              by_cases he : (us.getD (i - 1) z57).f2 = (us.getD i z57).f2
              · refine WQ.v 97 rfl (fun W hW => r_eql rfl rfl rfl (decide_eq_true he)) ?_
                refine WQ.v 98 rfl (fun W hW => r_pickB rfl rfl rfl) ?_
                refine WQ.v 99 rfl (fun W hW => r_moveB rfl rfl) ?_
                refine WQ.x 100 rfl ?_
                refine WQ.x 101 rfl ?_
                refine WQ.x 102 rfl ?_
                refine WQ.x 103 rfl ?_
                refine WQ.x 104 rfl ?_
                refine WQ.v 105 rfl (fun W hW => r_pickB rfl rfl rfl) ?_
                refine WQ.done (fun w12 H12 => ?_)
                refine Run.condT rfl (Run.seq (Run.regionL [0, 1, 2] rfl ?_))
                refine WO.v 106 rfl rfl (r_loadK (vs := [.int .i64 now, .int .i64 order, .slice (some ⟨gg, 0, none⟩) us.length c']) rfl h4 Try.isAgg69 Try.sizeOf69 rfl (H12.cells p2)) ?_
                refine WO.sstoreK (vs := [.int .i64 now, .int .i64 order, .slice (some ⟨gg, 0, none⟩) us.length c']) rfl rfl rfl h2 rfl rfl rfl Try.sizeOf69 rfl H12 p3 rfl ?_
                intro wS HS
                refine WO.v 3 rfl rfl (r_assignB rfl rfl) ?_
                exact WO.done (Run.ret2 (v2 := .bool false) Try.func38 Try.results38 ⟨_, h2, run_loadVarK Try.isAgg69 Try.sizeOf69 rfl (HS.cells p3)⟩ rfl ⟨[RT (some ⟨gg, 0, none⟩) c' us], ⟨(some ⟨gg, 0, none⟩), c', us, false, rfl, rfl, fun h => Bool.noConfusion h, fun _ => nogood i hi (fun ht => ht.1 (by omega) he)⟩, HS.sel (.c q1 .n)⟩)
              · refine WQ.v 97 rfl (fun W hW => r_eql rfl rfl rfl (decide_eq_false he)) ?_
                refine WQ.v 98 rfl (fun W hW => r_pickB rfl rfl rfl) ?_
                refine WQ.v 99 rfl (fun W hW => r_moveB rfl rfl) ?_
                refine WQ.v 100 rfl (fun W hW => r_fieldAddr rfl rfl Try.underlying57 rfl Try.sizeOf3 rfl) ?_
                refine WQ.v 101 rfl (fun W hW => r_load rfl rfl Try.isAgg3 (hW.cell p0 rfl)) ?_
                refine WQ.c 102 rfl (fun W hW => hf W hW) (fun w => r_call rfl rfl (by simp only [List.map_cons, List.map_nil]; exact congrArg (fun a => #[a, _]) h4) Try.call60) ?_
                refine WQ.v 103 rfl (fun W hW => r_moveI rfl rfl) ?_
                by_cases hfi : fidx (us.getD i z57).f0 us = i
                · refine WQ.v 104 rfl (fun W hW => r_neq rfl rfl rfl (decide_eq_false (fun h => h hfi))) ?_
                  refine WQ.v 105 rfl (fun W hW => r_pickB rfl rfl rfl) ?_
                  refine WQ.done (fun w12 H12 => ?_)
                  refine Run.condF rfl (Run.skip (Run.blockEnd (Run.regionL [0, 1] rfl ?_)))
                  refine WO.v 107 rfl rfl (r_add rfl h80 rfl (c := (i : Int) + 1) (wrap_in (by omega) (by omega))) ?_
                  refine WO.v 80 rfl rfl (r_moveI rfl rfl) ?_
                  refine WO.done (ih (m2 - 1) _ _ (by omega) ⟨i + 1, by omega, h2, h4, h78, h79, rfl, H12.sel (.c q1 (.c q1 (.c q1 .n))), fun i' hi' => ?_⟩)
                  by_cases e : i' = i
                  · rw [e]; exact ⟨fun _ => he, hfi⟩
                  · exact htok i' (by omega)
                · refine WQ.v 104 rfl (fun W hW => r_neq rfl rfl rfl (decide_eq_true hfi)) ?_
                  refine WQ.v 105 rfl (fun W hW => r_pickB rfl rfl rfl) ?_
                  refine WQ.done (fun w12 H12 => ?_)
                  refine Run.condT rfl (Run.seq (Run.regionL [0, 1, 2] rfl ?_))
                  refine WO.v 106 rfl rfl (r_loadK (vs := [.int .i64 now, .int .i64 order, .slice (some ⟨gg, 0, none⟩) us.length c']) rfl h4 Try.isAgg69 Try.sizeOf69 rfl (H12.cells p2)) ?_
                  refine WO.sstoreK (vs := [.int .i64 now, .int .i64 order, .slice (some ⟨gg, 0, none⟩) us.length c']) rfl rfl rfl h2 rfl rfl rfl Try.sizeOf69 rfl H12 p3 rfl ?_
                  intro wS HS
                  refine WO.v 3 rfl rfl (r_assignB rfl rfl) ?_
                  exact WO.done (Run.ret2 (v2 := .bool false) Try.func38 Try.results38 ⟨_, h2, run_loadVarK Try.isAgg69 Try.sizeOf69 rfl (HS.cells p3)⟩ rfl ⟨[RT (some ⟨gg, 0, none⟩) c' us], ⟨(some ⟨gg, 0, none⟩), c', us, false, rfl, rfl, fun h => Bool.noConfusion h, fun _ => nogood i hi (fun ht => hfi ht.2)⟩, HS.sel (.c q1 .n)⟩)
            · refine WQ.v 86 rfl (fun W hW => r_gtr rfl rfl rfl (decide_eq_false h0)) ?_
              refine WQ.v 87 rfl (fun W hW => r_moveB rfl rfl) ?_
              refine WQ.x 88 rfl ?_
              refine WQ.x 89 rfl ?_
              refine WQ.x 90 rfl ?_
              refine WQ.x 91 rfl ?_
              refine WQ.x 92 rfl ?_
              refine WQ.x 93 rfl ?_
              refine WQ.x 94 rfl ?_
              refine WQ.x 95 rfl ?_
              refine WQ.x 96 rfl ?_
              refine WQ.x 97 rfl ?_
              refine WQ.v 98 rfl (fun W hW => r_pickB rfl rfl rfl) ?_
              refine WQ.v 99 rfl (fun W hW => r_moveB rfl rfl) ?_
              refine WQ.v 100 rfl (fun W hW => r_fieldAddr rfl rfl Try.underlying57 rfl Try.sizeOf3 rfl) ?_
              refine WQ.v 101 rfl (fun W hW => r_load rfl rfl Try.isAgg3 (hW.cell p0 rfl)) ?_
              refine WQ.c 102 rfl (fun W hW => hf W hW) (fun w => r_call rfl rfl (by simp only [List.map_cons, List.map_nil]; exact congrArg (fun a => #[a, _]) h4) Try.call60) ?_
              refine WQ.v 103 rfl (fun W hW => r_moveI rfl rfl) ?_
              by_cases hfi : fidx (us.getD i z57).f0 us = i
              · refine WQ.v 104 rfl (fun W hW => r_neq rfl rfl rfl (decide_eq_false (fun h => h hfi))) ?_
                refine WQ.v 105 rfl (fun W hW => r_pickB rfl rfl rfl) ?_
                refine WQ.done (fun w12 H12 => ?_)
                refine Run.condF rfl (Run.skip (Run.blockEnd (Run.regionL [0, 1] rfl ?_)))
                refine WO.v 107 rfl rfl (r_add rfl h80 rfl (c := (i : Int) + 1) (wrap_in (by omega) (by omega))) ?_
                refine WO.v 80 rfl rfl (r_moveI rfl rfl) ?_
                refine WO.done (ih (m2 - 1) _ _ (by omega) ⟨i + 1, by omega, h2, h4, h78, h79, rfl, H12.sel (.c q1 (.c q1 (.c q1 .n))), fun i' hi' => ?_⟩)
                by_cases e : i' = i
                · rw [e]; exact ⟨fun h => absurd h (by omega), hfi⟩
                · exact htok i' (by omega)
              · refine WQ.v 104 rfl (fun W hW => r_neq rfl rfl rfl (decide_eq_true hfi)) ?_
                refine WQ.v 105 rfl (fun W hW => r_pickB rfl rfl rfl) ?_
                refine WQ.done (fun w12 H12 => ?_)
                refine Run.condT rfl (Run.seq (Run.regionL [0, 1, 2] rfl ?_))
                refine WO.v 106 rfl rfl (r_loadK (vs := [.int .i64 now, .int .i64 order, .slice (some ⟨gg, 0, none⟩) us.length c']) rfl h4 Try.isAgg69 Try.sizeOf69 rfl (H12.cells p2)) ?_
                refine WO.sstoreK (vs := [.int .i64 now, .int .i64 order, .slice (some ⟨gg, 0, none⟩) us.length c']) rfl rfl rfl h2 rfl rfl rfl Try.sizeOf69 rfl H12 p3 rfl ?_
                intro wS HS
                refine WO.v 3 rfl rfl (r_assignB rfl rfl) ?_
                exact WO.done (Run.ret2 (v2 := .bool false) Try.func38 Try.results38 ⟨_, h2, run_loadVarK Try.isAgg69 Try.sizeOf69 rfl (HS.cells p3)⟩ rfl ⟨[RT (some ⟨gg, 0, none⟩) c' us], ⟨(some ⟨gg, 0, none⟩), c', us, false, rfl, rfl, fun h => Bool.noConfusion h, fun _ => nogood i hi (fun ht => hfi ht.2)⟩, HS.sel (.c q1 .n)⟩)
          · have hall : ∀ i, i < us.length → TOK us i := fun i' hi' => htok i' (by omega)
            have hnd := tok_nodup us hall hsorted
            have hG : Good now order lv := ⟨hn.1, hn.2, ho.1, ho.2, by omega, fun l hl => hlev l (by omega), by rw [← hts']; exact hfew, by rw [← hts']; exact (hp.map _).nodup_iff.1 hnd.1, by rw [← hts']; exact (hp.map _).nodup_iff.1 hnd.2⟩
            refine Run.exit rfl (Run.seq (Run.regionL [0, 1, 2] rfl ?_))
            refine WO.v 108 rfl rfl (r_loadK (vs := [.int .i64 now, .int .i64 order, .slice A' us.length c']) rfl h4 Try.isAgg69 Try.sizeOf69 rfl (H.cells p1)) ?_
            refine WO.sstoreK (vs := [.int .i64 now, .int .i64 order, .slice A' us.length c']) rfl rfl rfl h2 rfl rfl rfl Try.sizeOf69 rfl H p2 rfl ?_
            intro wS HS
            refine WO.v 3 rfl rfl (r_assignB rfl rfl) ?_
            exact WO.done (Run.ret2 (v2 := .bool true) Try.func38 Try.results38 ⟨_, h2, run_loadVarK Try.isAgg69 Try.sizeOf69 rfl (HS.cells p2)⟩ rfl ⟨[RT A' c' us], ⟨A', c', us, true, rfl, rfl, fun _ => ⟨hG, by rw [← hts']; exact hp, hsorted⟩, fun h => Bool.noConfusion h⟩, HS.sel (.c q0 .n)⟩)
      · refine WO.v 30 rfl rfl (r_neq rfl rfl rfl (decide_eq_true h3)) ?_
        refine WO.v 31 rfl rfl (r_pickB rfl rfl rfl) ?_
        refine WO.done (Run.condT rfl (Run.seq (Run.regionL [0, 1, 2] rfl ?_)))
        refine WO.v 32 rfl rfl (r_loadK (vs := [.int .i64 now, .int .i64 order, .slice none ([] : List S57).length 0]) rfl rfl Try.isAgg69 Try.sizeOf69 rfl (H5.cells p1)) ?_
        refine WO.sstoreK (vs := [.int .i64 now, .int .i64 order, .slice none ([] : List S57).length 0]) rfl rfl rfl rfl rfl rfl rfl Try.sizeOf69 rfl H5 p2 rfl ?_
        intro wS HS
        refine WO.v 3 rfl rfl (r_assignB rfl rfl) ?_
        exact WO.done (Run.ret2 (v2 := .bool false) Try.func38 Try.results38 ⟨_, rfl, run_loadVarK Try.isAgg69 Try.sizeOf69 rfl (HS.cells p2)⟩ rfl ⟨[RT none 0 ([] : List S57)], ⟨none, 0, ([] : List S57), false, rfl, rfl, fun h => Bool.noConfusion h, fun _ => fun hG => h3 (by have := hG.three; omega)⟩, HS.sel (.c q0 .n)⟩)
    · rw [decide_eq_false ho]
      refine WO.v 24 rfl rfl (r_not rfl rfl rfl) ?_
      refine WO.v 25 rfl rfl (r_pickB rfl rfl rfl) ?_
      refine WO.v 26 rfl rfl (r_moveB rfl rfl) ?_
      refine WO.x 27 rfl rfl ?_
      refine WO.x 28 rfl rfl ?_
      refine WO.x 29 rfl rfl ?_
      refine WO.x 30 rfl rfl ?_
      refine WO.v 31 rfl rfl (r_pickB rfl rfl rfl) ?_
      refine WO.done (Run.condT rfl (Run.seq (Run.regionL [0, 1, 2] rfl ?_)))
      refine WO.v 32 rfl rfl (r_loadK (vs := [.int .i64 now, .int .i64 order, .slice none ([] : List S57).length 0]) rfl rfl Try.isAgg69 Try.sizeOf69 rfl (H5.cells p1)) ?_
      refine WO.sstoreK (vs := [.int .i64 now, .int .i64 order, .slice none ([] : List S57).length 0]) rfl rfl rfl rfl rfl rfl rfl Try.sizeOf69 rfl H5 p2 rfl ?_
      intro wS HS
      refine WO.v 3 rfl rfl (r_assignB rfl rfl) ?_
      exact WO.done (Run.ret2 (v2 := .bool false) Try.func38 Try.results38 ⟨_, rfl, run_loadVarK Try.isAgg69 Try.sizeOf69 rfl (HS.cells p2)⟩ rfl ⟨[RT none 0 ([] : List S57)], ⟨none, 0, ([] : List S57), false, rfl, rfl, fun h => Bool.noConfusion h, fun _ => fun hG => ho ⟨hG.o0, hG.o1⟩⟩, HS.sel (.c q0 .n)⟩)
  · rw [decide_eq_false hn]
    refine WO.v 19 rfl rfl (r_not rfl rfl rfl) ?_
    refine WO.v 20 rfl rfl (r_moveB rfl rfl) ?_
    refine WO.x 21 rfl rfl ?_
    refine WO.x 22 rfl rfl ?_
    refine WO.x 23 rfl rfl ?_
    refine WO.x 24 rfl rfl ?_
    refine WO.v 25 rfl rfl (r_pickB rfl rfl rfl) ?_
    refine WO.v 26 rfl rfl (r_moveB rfl rfl) ?_
    refine WO.x 27 rfl rfl ?_
    refine WO.x 28 rfl rfl ?_
    refine WO.x 29 rfl rfl ?_
    refine WO.x 30 rfl rfl ?_
    refine WO.v 31 rfl rfl (r_pickB rfl rfl rfl) ?_
    refine WO.done (Run.condT rfl (Run.seq (Run.regionL [0, 1, 2] rfl ?_)))
    refine WO.v 32 rfl rfl (r_loadK (vs := [.int .i64 now, .int .i64 order, .slice none ([] : List S57).length 0]) rfl rfl Try.isAgg69 Try.sizeOf69 rfl (H5.cells p1)) ?_
    refine WO.sstoreK (vs := [.int .i64 now, .int .i64 order, .slice none ([] : List S57).length 0]) rfl rfl rfl rfl rfl rfl rfl Try.sizeOf69 rfl H5 p2 rfl ?_
    intro wS HS
    refine WO.v 3 rfl rfl (r_assignB rfl rfl) ?_
    exact WO.done (Run.ret2 (v2 := .bool false) Try.func38 Try.results38 ⟨_, rfl, run_loadVarK Try.isAgg69 Try.sizeOf69 rfl (HS.cells p2)⟩ rfl ⟨[RT none 0 ([] : List S57)], ⟨none, 0, ([] : List S57), false, rfl, rfl, fun h => Bool.noConfusion h, fun _ => fun hG => hn ⟨hG.n0, hG.n1⟩⟩, HS.sel (.c q0 .n)⟩)
end Go.Proofs.Ytojpimpfpjhflaa.Wh
