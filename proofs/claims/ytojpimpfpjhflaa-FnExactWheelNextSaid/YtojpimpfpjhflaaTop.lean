/- The wheel: toWheel, eqWheel, impl.WheelOK, impl.WheelNext. -/
import Derived.Test.YtojpimpfpjhflaaShapes
import Derived.Test.YtojpimpfpjhflaaUnwindS
import Derived.Test.YtojpimpfpjhflaaSortT
namespace Go.Proofs.Ytojpimpfpjhflaa.Wh
open Go.RowKit Go.Proofs.Ytojpimpfpjhflaa.Fw Go.Proofs.YtojpimpfpjhflaaW.PrintWords Go.Proofs.Ytojpimpfpjhflaa.PFnExactWheelOK
set_option linter.unusedVariables false
set_option linter.unusedSimpArgs false

def cv3 (l : List (List (List S111))) : List (List (List S57)) := l.map (List.map (List.map cv))
theorem toWheel_tri (now order : Int) (A : Option Addr) (c : Nat) (l : List (List (List S111))) (w : World) (hr : Kd.C (Kd.slice 100 (Kd.slice 111 k111)) w A l.length l) (hs : szSSS l ≤ 1048576) :
    Tri Try.prog 12 #[.agg #[.int .i64 now, .int .i64 order, .slice A l.length c]] w [] fun e LQ => ∃ A' c', e = .returned (.agg #[.int .i64 now, .int .i64 order, .slice A' (cv3 l).length c']) ∧ LQ = [Rw o54 54 (.slice A' (cv3 l).length c') (cv3 l)] := by
  refine tri_of_run0 (fn := Try.f12) (n := 15) Try.func12 rfl Try.ntmps12 (Nat.le_of_ble_eq_true rfl) fun H => ?_
  refine Run.seq (Run.regionL [0, 1] rfl ?_)
  refine WO.sbox 1 (cs := [.int .i64 now, .int .i64 order, .slice A l.length c]) rfl rfl rfl rfl H ?_
  intro g1 w1 H1
  refine WO.salloc 2 (cs := [.int .i64 0, .int .i64 0, .slice none 0 0]) rfl rfl rfl Try.zeroValue29 rfl H1 ?_
  intro g2 w2 H2
  refine WO.done (Run.seq (Run.regionL [0] rfl ?_))
  refine WO.salloc 3 (cs := [.int .i64 0, .int .i64 0, .slice none 0 0]) rfl rfl rfl Try.zeroValue29 rfl H2 ?_
  intro g3 w3 H3
  refine WO.done (Run.seq (Run.regionL [0, 1, 2, 3] rfl ?_))
  refine WO.v 4 rfl rfl (r_fieldAddr rfl rfl Try.underlying24 rfl Try.sizeOf3 (q := 0) rfl) ?_
  refine WO.v 5 rfl rfl (r_load rfl rfl Try.isAgg3 (H3.cell p2 rfl)) ?_
  refine WO.v 6 rfl rfl (r_fieldAddr rfl rfl Try.underlying29 rfl Try.sizeOf3 (q := 0) rfl) ?_
  refine WO.sstore rfl rfl rfl rfl rfl rfl Try.sizeOf3 H3 p0 .z ?_
  intro w4 H4
  refine WO.done (Run.seq (Run.regionL [0, 1, 2, 3] rfl ?_))
  refine WO.v 7 rfl rfl (r_fieldAddr rfl rfl Try.underlying24 rfl Try.sizeOf3 (q := 1) rfl) ?_
  refine WO.v 8 rfl rfl (r_load rfl rfl Try.isAgg3 (H4.cell p2 rfl)) ?_
  refine WO.v 9 rfl rfl (r_fieldAddr rfl rfl Try.underlying29 rfl Try.sizeOf3 (q := 1) rfl) ?_
  refine WO.sstore rfl rfl rfl rfl rfl rfl Try.sizeOf3 H4 p0 (.s .z) ?_
  intro w5 H5
  refine WO.done (Run.seq (Run.regionL [0, 1, 2, 3, 4] rfl ?_))
  refine WO.v 10 rfl rfl (r_fieldAddr rfl rfl Try.underlying24 rfl Try.sizeOf22 (q := 2) rfl) ?_
  refine WO.v 11 rfl rfl (r_load rfl rfl Try.isAgg22 (H5.cell p2 rfl)) ?_
  refine WO.scall 12 rfl rfl Try.call37 H5 .n (toTimerSSS_tri A c l w5 (Kd.C_below hr H5.below) hs) rfl rfl ?_
  rintro e LQ w6 ⟨A2, c2, rfl, rfl⟩ H6
  refine ⟨_, rfl, ?_⟩
  refine WO.v 13 rfl rfl (r_fieldAddr rfl rfl Try.underlying29 rfl Try.sizeOf27 (q := 2) rfl) ?_
  refine WO.sstore rfl rfl rfl rfl rfl rfl Try.sizeOf27 H6 p1 (.s (.s .z)) ?_
  intro w7 H7
  refine WO.done (Run.seq (Run.regionL [0, 1] rfl ?_))
  refine WO.v 14 rfl rfl (r_loadK (vs := [.int .i64 now, .int .i64 order, .slice A2 (cv3 l).length c2]) rfl rfl Try.isAgg29 Try.sizeOf29 rfl (H7.cells p1)) ?_
  refine WO.sstoreK (vs := [.int .i64 now, .int .i64 order, .slice A2 (cv3 l).length c2]) rfl rfl rfl rfl rfl rfl rfl Try.sizeOf29 rfl H7 p2 rfl ?_
  intro wS HS
  exact WO.done (Run.ret1 Try.func12 Try.results12 ⟨_, rfl, run_loadVarK Try.isAgg29 Try.sizeOf29 rfl (HS.cells p2)⟩ ⟨[Rw o54 54 (.slice A2 (cv3 l).length c2) (cv3 l)], ⟨A2, c2, rfl, rfl⟩, HS.sel (.c q0 .n)⟩)

theorem eqWheel_calls (now order : Int) (A0 : Option Addr) (c0 : Nat) (A1 : Option Addr) (c1 : Nat) (l : List (List (List S57))) (w : World) (hr0 : Kd.C (Kd.slice 55 (Kd.slice 57 k57)) w A0 l.length l) (hr1 : Kd.C (Kd.slice 55 (Kd.slice 57 k57)) w A1 l.length l) :
    Calls Try.prog 14 #[.agg #[.int .i64 now, .int .i64 order, .slice A0 l.length c0], .agg #[.int .i64 now, .int .i64 order, .slice A1 l.length c1]] w fun e w' => e = .returned (.bool true) ∧ Below w.heap.size w w' := by
  have H := St.nil w
  refine calls_of_run (fn := Try.f14) (n := 21) Try.func14 rfl Try.ntmps14 (Nat.le_of_ble_eq_true rfl) ?_
  refine Run.seq (Run.regionL [0, 1, 2] rfl ?_)
  refine WO.sbox 2 (cs := [.int .i64 now, .int .i64 order, .slice A0 l.length c0]) rfl rfl rfl rfl H ?_
  intro g1 w1 H1
  refine WO.sbox 3 (cs := [.int .i64 now, .int .i64 order, .slice A1 l.length c1]) rfl rfl rfl rfl H1 ?_
  intro g2 w2 H2
  refine WO.v 4 rfl rfl (r_assignB rfl rfl) ?_
  refine WO.done (Run.seq (Run.seq (Run.regionL [0, 1, 2, 3, 4] rfl ?_)))
  refine WO.v 5 rfl rfl (r_fieldAddr rfl rfl Try.underlying29 rfl Try.sizeOf3 (q := 0) rfl) ?_
  refine WO.v 6 rfl rfl (r_load rfl rfl Try.isAgg3 (H2.cell p1 rfl)) ?_
  refine WO.v 7 rfl rfl (r_fieldAddr rfl rfl Try.underlying29 rfl Try.sizeOf3 (q := 0) rfl) ?_
  refine WO.v 8 rfl rfl (r_load rfl rfl Try.isAgg3 (H2.cell p0 rfl)) ?_
  refine WO.v 9 rfl rfl (r_neq rfl rfl rfl (decide_eq_false (fun h => h rfl))) ?_
  refine WO.done (Run.condF rfl (Run.skip (Run.seq (Run.seq (Run.regionL [0, 1, 2, 3, 4] rfl ?_)))))
  refine WO.v 10 rfl rfl (r_fieldAddr rfl rfl Try.underlying29 rfl Try.sizeOf3 (q := 1) rfl) ?_
  refine WO.v 11 rfl rfl (r_load rfl rfl Try.isAgg3 (H2.cell p1 rfl)) ?_
  refine WO.v 12 rfl rfl (r_fieldAddr rfl rfl Try.underlying29 rfl Try.sizeOf3 (q := 1) rfl) ?_
  refine WO.v 13 rfl rfl (r_load rfl rfl Try.isAgg3 (H2.cell p0 rfl)) ?_
  refine WO.v 14 rfl rfl (r_neq rfl rfl rfl (decide_eq_false (fun h => h rfl))) ?_
  refine WO.done (Run.condF rfl (Run.skip (Run.seq (Run.seq (Run.regionL [0, 1, 2, 3, 4, 5] rfl ?_)))))
  refine WO.v 15 rfl rfl (r_fieldAddr rfl rfl Try.underlying29 rfl Try.sizeOf27 (q := 2) rfl) ?_
  refine WO.v 16 rfl rfl (r_load rfl rfl Try.isAgg27 (H2.cell p1 rfl)) ?_
  refine WO.v 17 rfl rfl (r_fieldAddr rfl rfl Try.underlying29 rfl Try.sizeOf27 (q := 2) rfl) ?_
  refine WO.v 18 rfl rfl (r_load rfl rfl Try.isAgg27 (H2.cell p0 rfl)) ?_
  refine WO.call_ 19 rfl rfl Try.call39 (eqTimerSSS_calls A0 c0 A1 c1 l w2 (Kd.C_below hr0 H2.below) (Kd.C_below hr1 H2.below)) rfl rfl ?_
  rintro e w3 ⟨rfl, hb3⟩
  refine ⟨_, rfl, ?_⟩
  refine WO.v 20 rfl rfl (r_not rfl rfl rfl) ?_
  refine WO.done (Run.condF rfl (Run.skip (Run.seq (Run.regionL [0] rfl ?_))))
  refine WO.v 4 rfl rfl (r_assignB rfl rfl) ?_
  exact WO.done (Run.ret1 (v1 := .bool true) Try.func14 Try.results14 rfl ⟨rfl, H2.below.trans (hb3.mono H2.size)⟩)

/-- impl.WheelOK: a wheel that is right, or not. -/
theorem implOK_calls (now order : Int) (A : Option Addr) (c : Nat) (lv : List (List (List S57))) (w : World) (hr : Kd.C (Kd.slice 55 (Kd.slice 57 k57)) w A lv.length lv) (hbig : lv.flatten.flatten.length ≤ 1048576) :
    Calls Try.prog 13 #[.agg #[.int .i64 now, .int .i64 order, .slice A lv.length c]] w fun e w' => (∃ b, e = .returned (.bool b) ∧ (b = true → Good now order lv) ∧ (b = false → ¬ Good now order lv)) ∧ Below w.heap.size w w' := by
  have H := St.nil w
  refine calls_of_run (fn := Try.f13) (n := 11) Try.func13 rfl Try.ntmps13 (Nat.le_of_ble_eq_true rfl) ?_
  refine Run.seq (Run.regionL [0, 1] rfl ?_)
  refine WO.sbox 1 (cs := [.int .i64 now, .int .i64 order, .slice A lv.length c]) rfl rfl rfl rfl H ?_
  intro g1 w1 H1
  refine WO.v 2 rfl rfl (r_assignB rfl rfl) ?_
  refine WO.done (Run.seq (Run.regionL [0, 1, 2, 3, 4, 5, 6, 7] rfl ?_))
  refine WO.v 6 rfl rfl (r_loadK (vs := [.int .i64 now, .int .i64 order, .slice A lv.length c]) rfl rfl Try.isAgg29 Try.sizeOf29 rfl (H1.cells p0)) ?_
  refine WO.scall 7 rfl rfl Try.call38 H1 .n (unwind_tri sort_rw now order A c lv w1 (Kd.C_below hr H1.below) hbig) rfl rfl ?_
  rintro e LQ w2 ⟨A', c', ts, b, rfl, rfl, hb1, hb0⟩ H2
  refine ⟨_, rfl, ?_⟩
  refine WO.v 5 rfl rfl (r_moveT rfl rfl) ?_
  refine WO.v 8 rfl rfl (r_extract rfl rfl rfl) ?_
  refine WO.v 9 rfl rfl (r_extract rfl rfl rfl) ?_
  refine WO.salloc 3 (cs := [.int .i64 0, .int .i64 0, .slice none 0 0]) rfl rfl rfl Try.zeroValue69 rfl H2 ?_
  intro g3 w3 H3
  refine WO.sstoreK (vs := [.int .i64 now, .int .i64 order, .slice A' ts.length c']) rfl rfl rfl rfl rfl rfl rfl Try.sizeOf69 rfl H3 p0 rfl ?_
  intro w4 H4
  refine WO.v 4 rfl rfl (r_assignB rfl rfl) ?_
  refine WO.done (Run.seq (Run.regionL [0, 1] rfl ?_))
  refine WO.v 10 rfl rfl (r_moveB rfl rfl) ?_
  refine WO.v 2 rfl rfl (r_assignB rfl rfl) ?_
  exact WO.done (Run.ret1 (v1 := .bool b) Try.func13 Try.results13 rfl ⟨⟨b, rfl, fun h => (hb1 h).1, hb0⟩, H4.below⟩)
end Go.Proofs.Ytojpimpfpjhflaa.Wh
