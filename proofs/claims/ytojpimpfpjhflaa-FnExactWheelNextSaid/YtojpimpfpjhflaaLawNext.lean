/- The wheel: FnExactWheelNext's walk. Printed by lawnext.py. -/
import Derived.Test.YtojpimpfpjhflaaNext
import Derived.Test.YtojpimpfpjhflaaWalkOK
namespace Go.Proofs.Ytojpimpfpjhflaa.Wh
open Go.RowKit Go.Proofs.Ytojpimpfpjhflaa.Fw Go.Proofs.YtojpimpfpjhflaaW.PrintWords Go.Proofs.Ytojpimpfpjhflaa.PFnExactWheelOK
set_option linter.unusedVariables false
set_option linter.unusedSimpArgs false
set_option maxHeartbeats 1000000 in
theorem lawNext_calls (now order : Int) (A : Option Addr) (c : Nat) (l : List (List (List S111))) (w : World) (hr : Kd.C (Kd.slice 100 (Kd.slice 111 k111)) w A l.length l) (hc : l.length ≤ c) :
    Calls Try.prog 4 #[.agg #[.int .i64 now, .int .i64 order, .slice A l.length c]] w fun e w' => e = .returned (.bool true) ∧ Below w.heap.size w w' := by
  have H := St.nil w
  refine calls_of_run (fn := Try.f4) (n := 40) Try.func4 rfl Try.ntmps4 (Nat.le_of_ble_eq_true rfl) ?_
  refine Run.seq (Run.regionL [0, 1] rfl ?_)
  refine WO.sbox 1 (cs := [.int .i64 now, .int .i64 order, .slice A l.length c]) rfl rfl rfl rfl H ?_
  intro g1 w1 H1
  refine WO.v 2 rfl rfl (r_assignB rfl rfl) ?_
  refine WO.done (Run.seq (Run.regionL [0] rfl ?_))
  refine WO.v 3 rfl rfl (r_assignI rfl rfl) ?_
  refine WO.done (Run.seq (Run.regionL [0, 1, 2, 3] rfl ?_))
  refine WO.v 9 rfl rfl (r_loadK (vs := [.int .i64 now, .int .i64 order, .slice A l.length c]) rfl rfl Try.isAgg24 Try.sizeOf24 rfl (H1.cells p0)) ?_
  refine WO.v 10 rfl rfl (r_moveI rfl rfl) ?_
  refine WO.call_ 11 rfl rfl Try.call10 (szWheel_calls now order A c l w1 (Kd.C_below hr H1.below) hc) rfl rfl ?_
  rintro e w2 ⟨⟨r, rfl, hsz⟩, hb2⟩
  refine ⟨_, rfl, ?_⟩
  have H2 := H1.step hb2
  refine WO.v 3 rfl rfl (r_assignI rfl rfl) ?_
  refine WO.done (Run.seq (Run.seq (Run.regionL [0, 1] rfl ?_)))
  refine WO.v 12 rfl rfl (r_moveI rfl rfl) ?_
  refine WO.v 13 rfl rfl (r_lss rfl rfl rfl rfl) ?_
  refine WO.done (Run.test rfl (fun hneg => ?_) (fun hpos => ?_))
  · refine Run.seq (Run.regionL [0] rfl ?_)
    refine WO.v 2 rfl rfl (r_assignB rfl rfl) ?_
    exact WO.done (Run.ret1 (v1 := .bool true) Try.func4 Try.results4 rfl ⟨rfl, H2.below⟩)
  · have hs : szSSS l ≤ 1048576 := hsz (by omega)
    have hbig : (cv3 l).flatten.flatten.length ≤ 1048576 := Nat.le_trans (flat_szSSS l) hs
    refine Run.skip (Run.seq (Run.regionL [0, 1, 2, 3, 4, 5, 6, 7] rfl ?_))
    refine WO.v 15 rfl rfl (r_loadK (vs := [.int .i64 now, .int .i64 order, .slice A l.length c]) rfl rfl Try.isAgg24 Try.sizeOf24 rfl (H2.cells p0)) ?_
    refine WO.scall 16 rfl rfl Try.call12 H2 .n (toWheel_tri now order A c l w2 (Kd.C_below hr H2.below) hs) rfl rfl ?_
    rintro e LQ w3 ⟨A3, c3, rfl, rfl⟩ H3
    refine ⟨_, rfl, ?_⟩
    have hr3 := H3.rd p0
    refine WO.call_ 17 rfl rfl Try.call15 (specNext_calls now order A3 c3 (cv3 l) w3 hr3.2.2 hr3.2.1 hbig) rfl rfl ?_
    rintro e w4 ⟨⟨x, y, rfl, hsp⟩, hb4⟩
    refine ⟨_, rfl, ?_⟩
    have H4 := H3.step hb4
    refine WO.v 14 rfl rfl (r_moveT rfl rfl) ?_
    refine WO.v 18 rfl rfl (r_extract rfl rfl rfl) ?_
    refine WO.v 19 rfl rfl (r_extract rfl rfl rfl) ?_
    refine WO.v 4 rfl rfl (r_assignI rfl rfl) ?_
    refine WO.v 5 rfl rfl (r_assignI rfl rfl) ?_
    refine WO.done (Run.seq (Run.regionL [0, 1, 2, 3] rfl ?_))
    refine WO.v 20 rfl rfl (r_loadK (vs := [.int .i64 now, .int .i64 order, .slice A l.length c]) rfl rfl Try.isAgg24 Try.sizeOf24 rfl (H4.cells p1)) ?_
    refine WO.scall 21 rfl rfl Try.call12 H4 .n (toWheel_tri now order A c l w4 (Kd.C_below hr H4.below) hs) rfl rfl ?_
    rintro e LQ w5 ⟨A5, c5, rfl, rfl⟩ H5
    refine ⟨_, rfl, ?_⟩
    refine WO.salloc 6 (cs := [.int .i64 0, .int .i64 0, .slice none 0 0]) rfl rfl rfl Try.zeroValue29 rfl H5 ?_
    intro g5 w6 H6
    refine WO.sstoreK (vs := [.int .i64 now, .int .i64 order, .slice A5 (cv3 l).length c5]) rfl rfl rfl rfl rfl rfl rfl Try.sizeOf29 rfl H6 p0 rfl ?_
    intro w7 H7'
    have H7 : St w Em [Bk g5 [.int .i64 now, .int .i64 order, .slice A5 (cv3 l).length c5] 29, Rw o54 54 (.slice A5 (cv3 l).length c5) (cv3 l), Bk g1 [.int .i64 now, .int .i64 order, .slice A l.length c] 24] w7 := H7'.sel (.c q0 (.c q0 (.c q1 .n)))
    refine WO.done (Run.seq (Run.regionL [0, 1, 2, 3, 4, 5, 6] rfl ?_))
    refine WO.v 23 rfl rfl (r_loadK (vs := [.int .i64 now, .int .i64 order, .slice A5 (cv3 l).length c5]) rfl rfl Try.isAgg29 Try.sizeOf29 rfl (H7.cells p0)) ?_
    refine WO.call_ 24 rfl rfl Try.call16 (implNext_calls now order A5 c5 (cv3 l) w7 (H7.rdC p1) hbig) rfl rfl ?_
    rintro e w8 ⟨⟨x2, y2, rfl, him⟩, hb8⟩
    refine ⟨_, rfl, ?_⟩
    have H8 := H7.step hb8
    obtain ⟨rfl, rfl⟩ := him.uniq hsp
    refine WO.v 22 rfl rfl (r_moveT rfl rfl) ?_
    refine WO.v 25 rfl rfl (r_extract rfl rfl rfl) ?_
    refine WO.v 26 rfl rfl (r_extract rfl rfl rfl) ?_
    refine WO.v 7 rfl rfl (r_assignI rfl rfl) ?_
    refine WO.v 8 rfl rfl (r_assignI rfl rfl) ?_
    refine WO.done (Run.seq (Run.seq (Run.regionL [0, 1, 2, 3, 4, 5, 6, 7] rfl ?_)))
    refine WO.v 27 rfl rfl (r_moveI rfl rfl) ?_
    refine WO.v 28 rfl rfl (r_moveI rfl rfl) ?_
    refine WO.v 29 rfl rfl (r_neq rfl rfl rfl (decide_eq_false (fun h => h rfl))) ?_
    refine WO.v 30 rfl rfl (r_moveB rfl rfl) ?_
    refine WO.v 31 rfl rfl (r_moveI rfl rfl) ?_
    refine WO.v 32 rfl rfl (r_moveI rfl rfl) ?_
    refine WO.v 33 rfl rfl (r_neq rfl rfl rfl (decide_eq_false (fun h => h rfl))) ?_
    refine WO.v 34 rfl rfl (r_pickB rfl rfl rfl) ?_
    refine WO.done (Run.condF rfl (Run.skip (Run.seq (Run.seq ?_))))
    refine Run.mix 5 (fun j => if j = 2 then 3 else 5) (fun _ => []) (fun i v Lp => match i with
      | 0 => v = .agg #[.int .i64 now, .int .i64 order, .slice A5 (cv3 l).length c5]
      | 1 => v = .agg #[.int .i64 now, .int .i64 order, .slice A l.length c]
      | 2 => ∃ A' c', v = .agg #[.int .i64 now, .int .i64 order, .slice A' (cv3 l).length c'] ∧ Lp = [Rw o54 54 (.slice A' (cv3 l).length c') (cv3 l)]
      | 3 => v = .bool true
      | _ => v = .bool false)
      [Bk g5 [.int .i64 now, .int .i64 order, .slice A5 (cv3 l).length c5] 29, Rw o54 54 (.slice A5 (cv3 l).length c5) (cv3 l), Bk g1 [.int .i64 now, .int .i64 order, .slice A l.length c] 24] H8 (by kernel_rfl) rfl (by kernel_rfl) (by kernel_rfl) ?_ ?_
    · intro i hi
      match i, hi with
      | 0, _ => exact ⟨_, rfl, fun τ' w' Lp Rest hfr hq HS => ⟨fun _ => opStep.val (r_loadK (vs := [.int .i64 now, .int .i64 order, .slice A5 (cv3 l).length c5]) rfl (hfr 6 (by kernel_rfl)) Try.isAgg29 Try.sizeOf29 rfl (HS.cells p0)) ⟨[], rfl, HS⟩, fun h => nomatch h⟩⟩
      | 1, _ => exact ⟨_, rfl, fun τ' w' Lp Rest hfr hq HS => ⟨fun _ => opStep.val (r_loadK (vs := [.int .i64 now, .int .i64 order, .slice A l.length c]) rfl (hfr 1 (by kernel_rfl)) Try.isAgg24 Try.sizeOf24 rfl (HS.cells p2)) ⟨[], rfl, HS⟩, fun h => nomatch h⟩⟩
      | 2, _ =>
        refine ⟨_, rfl, fun τ' w' Lp Rest hfr hq HS => ⟨fun _ => ?_, fun h => nomatch h⟩⟩
        have h36 : τ' 36 = .agg #[.int .i64 now, .int .i64 order, .slice A l.length c] := hq 1 (by kernel_rfl)
        refine opStep.call (r_call rfl rfl (args1 h36) Try.call12) (Calls.use HS .n (toWheel_tri now order A c l w' (Kd.C_below hr HS.below) hs)) ?_
        rintro e w'' ⟨LQ, ⟨A', c', rfl, rfl⟩, H2⟩
        exact ⟨_, rfl, _, ⟨A', c', rfl, rfl⟩, St.into H2⟩
      | 3, _ =>
        refine ⟨_, rfl, fun τ' w' Lp Rest hfr hq HS => ⟨fun _ => ?_, fun h => nomatch h⟩⟩
        have h35 : τ' 35 = .agg #[.int .i64 now, .int .i64 order, .slice A5 (cv3 l).length c5] := hq 0 (by kernel_rfl)
        obtain ⟨A', c', h37, hLp⟩ : ∃ A' c', τ' 37 = .agg #[.int .i64 now, .int .i64 order, .slice A' (cv3 l).length c'] ∧ Lp 2 = [Rw o54 54 (.slice A' (cv3 l).length c') (cv3 l)] := hq 2 (by kernel_rfl)
        have HS2 : St w Em ([Bk g5 [.int .i64 now, .int .i64 order, .slice A5 (cv3 l).length c5] 29, Rw o54 54 (.slice A5 (cv3 l).length c5) (cv3 l), Bk g1 [.int .i64 now, .int .i64 order, .slice A l.length c] 24] ++ (Lp 2 ++ []) ++ Rest) w' := HS
        rw [hLp] at HS2
        refine opStep.call (r_call rfl rfl (args2 h35 h37) Try.call14) (eqWheel_calls now order A5 c5 A' c' (cv3 l) w' (HS2.rdC p1) (HS2.rdC p3)) ?_
        rintro e w'' ⟨rfl, hb⟩
        exact ⟨_, rfl, _, rfl, HS2.step hb⟩
      | 4, _ => exact ⟨_, rfl, fun τ' w' Lp Rest hfr hq HS => ⟨fun _ => opStep.val (r_not rfl (show τ' 38 = .bool true from hq 3 (by kernel_rfl)) rfl) ⟨[], rfl, HS⟩, fun h => nomatch h⟩⟩
    · intro τ' w9 Lp hQ hfr HS
      have h39 : τ' 39 = .bool false := hQ 4 (by decide)
      refine (WO.done ?_ : WO _ _ _ _ _ _ [] _ _)
      refine Run.condF h39 (Run.skip (Run.seq (Run.regionL [0] rfl ?_)))
      refine WO.v 2 rfl rfl (r_assignB rfl rfl) ?_
      exact WO.done (Run.ret1 (v1 := .bool true) Try.func4 Try.results4 rfl ⟨rfl, HS.below⟩)
theorem fnExactWheelNext_walk (w : World) {x : Int × Int × List (List (List S111))} {cs : List Value} (h : kd24.K w x cs) : Calls Try.prog 4 #[.agg ⟨cs⟩] w fun e w' => e = .returned (.bool true) ∧ Below w.heap.size w w' := by
  obtain ⟨_, _, rfl, rfl, _, _, rfl, rfl, A, c, rfl, hc, hr⟩ := h
  exact lawNext_calls x.1 x.2.1 A c x.2.2 w hr hc
end Go.Proofs.Ytojpimpfpjhflaa.Wh
