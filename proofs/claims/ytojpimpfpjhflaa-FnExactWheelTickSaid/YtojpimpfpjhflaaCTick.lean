/- FnExactWheelTick is true at every input; no condition. -/
import Derived.Test.YtojpimpfpjhflaaH3Tick
import Derived.Test.YtojpimpfpjhflaaRows
import Derived.WalkKit
import Derived.ProofKit
import Derived.OpenShut
import Derived.ShutString
import Derived.ChangeOld
import Derived.Below
import Derived.SizedLaws
namespace Go.Proofs.Ytojpimpfpjhflaa.Wh
open Go.RowKit Go.Proofs.Ytojpimpfpjhflaa.Fw Go.Proofs.YtojpimpfpjhflaaW.PrintWords Go.Proofs.Ytojpimpfpjhflaa.PFnExactWheelOK
set_option linter.unusedVariables false
set_option linter.unusedSimpArgs false
set_option maxHeartbeats 2000000 in
set_option maxRecDepth 20000 in
theorem lawTick_calls (now order : Int) (A : Option Addr) (c : Nat) (l : List (List (List S111))) (w : World) (hr : Kd.C (Kd.slice 100 (Kd.slice 111 k111)) w A l.length l) (hc : l.length ≤ c) :
    Calls Try.prog 9 #[.agg #[.int .i64 now, .int .i64 order, .slice A l.length c]] w fun e w' => e = .returned (.bool true) ∧ Below w.heap.size w w' := by
  have H := St.nil w
  refine calls_of_run (fn := Try.f9) (n := 133) Try.func9 rfl Try.ntmps9 (Nat.le_of_ble_eq_true rfl) ?_
  refine Run.seq ?_
  refine Run.regionL [0, 1] rfl ?_
  refine WO.sbox 1 (cs := [.int .i64 now, .int .i64 order, .slice A l.length c]) rfl rfl rfl rfl H ?_
  intro g1 w1 H1
  refine WO.v 2 rfl rfl (r_assignB rfl rfl) ?_
  refine WO.done ?_
  refine Run.seq ?_
  refine Run.regionL [0] rfl ?_
  refine WO.v 3 rfl rfl (r_assignI rfl rfl) ?_
  refine WO.done ?_
  refine Run.seq ?_
  refine Run.regionL [0, 1, 2, 3] rfl ?_
  refine WO.v 17 rfl rfl (r_loadK (vs := [.int .i64 now, .int .i64 order, .slice A l.length c]) rfl rfl Try.isAgg24 Try.sizeOf24 rfl (H1.cells p0)) ?_
  refine WO.v 18 rfl rfl (r_moveI rfl rfl) ?_
  refine WO.call_ 19 rfl rfl Try.call10 (szWheel_calls now order A c l w1 (Kd.C_below hr H1.below) hc) rfl rfl ?_
  rintro e w2 ⟨⟨r, rfl, hsz⟩, hb2⟩
  refine ⟨_, rfl, ?_⟩
  have H2 := H1.step hb2
  refine WO.v 3 rfl rfl (r_assignI rfl rfl) ?_
  refine WO.done ?_
  refine Run.seq ?_
  refine Run.seq ?_
  refine Run.regionL [0, 1] rfl ?_
  refine WO.v 20 rfl rfl (r_moveI rfl rfl) ?_
  refine WO.v 21 rfl rfl (r_lss rfl rfl rfl rfl) ?_
  refine WO.done ?_
  refine Run.test rfl (fun hneg => ?_) (fun hpos => ?_)
  · refine Run.seq ?_
    refine Run.regionL [0] rfl ?_
    refine WO.v 2 rfl rfl (r_assignB rfl rfl) ?_
    refine WO.done ?_
    exact Run.ret1 (v1 := .bool true) Try.func9 Try.results9 rfl ⟨rfl, H2.below⟩
  · have hs : szSSS l ≤ 1048576 := hsz (by omega)
    have hbig : (cv3 l).flatten.flatten.length ≤ 1048576 := Nat.le_trans (flat_szSSS l) hs
    refine Run.skip ?_
    refine Run.seq ?_
    refine Run.regionL [0, 1, 2, 3, 4, 5, 6, 7, 8, 9, 10] rfl ?_
    refine WO.v 23 rfl rfl (r_loadK (vs := [.int .i64 now, .int .i64 order, .slice A l.length c]) rfl rfl Try.isAgg24 Try.sizeOf24 rfl (H2.cells p0)) ?_
    refine WO.scall 24 rfl rfl Try.call12 H2 .n (toWheel_tri now order A c l w2 (Kd.C_below hr H2.below) hs) rfl rfl ?_
    rintro e LQ w3 ⟨A3, c3, rfl, rfl⟩ H3
    refine ⟨_, rfl, ?_⟩
    refine WO.scall 25 rfl rfl Try.call29 H3 .n (specTick_tri now order A3 c3 (cv3 l) w3 (H3.rdC p0) (H3.rd p0).2.1 hbig) rfl rfl ?_
    rintro e LQ w4 ⟨a4, b4, lv4, fi4, d4, A4, c4, B4, k4, rfl, rfl, hW⟩ H4
    refine ⟨_, rfl, ?_⟩
    have hfew := hW.few
    have hkG : (1 : Int) + cnW lv4 ≤ 4611686018427387904 := by rw [cnW_eq]; omega
    have hkX : (1 : Int) + cnW (cv3 l) ≤ 4611686018427387904 := by rw [cnW_eq]; omega
    refine WO.v 22 rfl rfl (r_moveT rfl rfl) ?_
    refine WO.v 26 rfl rfl (r_extract rfl rfl rfl) ?_
    refine WO.v 27 rfl rfl (r_extract rfl rfl rfl) ?_
    refine WO.v 28 rfl rfl (r_extract rfl rfl rfl) ?_
    refine WO.salloc 4 (cs := [.int .i64 0, .int .i64 0, .slice none 0 0]) rfl rfl rfl Try.zeroValue29 rfl H4 ?_
    intro g5 w5 H5
    refine WO.sstoreK (vs := [.int .i64 a4, .int .i64 b4, .slice A4 lv4.length c4]) rfl rfl rfl rfl rfl rfl rfl Try.sizeOf29 rfl H5 p0 rfl ?_
    intro w6 H6
    refine WO.v 5 rfl rfl (r_assignL rfl rfl) ?_
    refine WO.v 6 rfl rfl (r_assignI rfl rfl) ?_
    refine WO.done ?_
    refine Run.seq ?_
    refine Run.regionL [0, 1, 2, 3] rfl ?_
    refine WO.v 29 rfl rfl (r_loadK (vs := [.int .i64 now, .int .i64 order, .slice A l.length c]) rfl rfl Try.isAgg24 Try.sizeOf24 rfl (H6.cells p4)) ?_
    refine WO.scall 30 rfl rfl Try.call12 H6 .n (toWheel_tri now order A c l w6 (Kd.C_below hr H6.below) hs) rfl rfl ?_
    rintro e LQ w7 ⟨A7, c7, rfl, rfl⟩ H7
    refine ⟨_, rfl, ?_⟩
    refine WO.salloc 7 (cs := [.int .i64 0, .int .i64 0, .slice none 0 0]) rfl rfl rfl Try.zeroValue29 rfl H7 ?_
    intro g8 w8 H8
    refine WO.sstoreK (vs := [.int .i64 now, .int .i64 order, .slice A7 ((cv3 l).length) c7]) rfl rfl rfl rfl rfl rfl rfl Try.sizeOf29 rfl H8 p0 rfl ?_
    intro w9 H9
    refine WO.done ?_
    refine Run.seq ?_
    refine Run.regionL [0, 1, 2, 3, 4, 5, 6, 7, 8, 9] rfl ?_
    refine WO.v 32 rfl rfl (r_loadK (vs := [.int .i64 now, .int .i64 order, .slice A7 ((cv3 l).length) c7]) rfl rfl Try.isAgg29 Try.sizeOf29 rfl (H9.cells p0)) ?_
    refine WO.scall 33 rfl rfl Try.call28 H9 .n (implTick_tri now order A7 c7 (cv3 l) w9 (H9.rdC p1) hbig) rfl rfl ?_
    rintro e LQ w10 ⟨a10, b10, lv10, fi10, d10, A10, c10, B10, k10, rfl, rfl, hI10⟩ H10
    refine ⟨_, rfl, ?_⟩
    obtain ⟨rfl, rfl, rfl, rfl, rfl⟩ := hW.uniq hI10
    refine WO.v 31 rfl rfl (r_moveT rfl rfl) ?_
    refine WO.v 34 rfl rfl (r_extract rfl rfl rfl) ?_
    refine WO.v 35 rfl rfl (r_extract rfl rfl rfl) ?_
    refine WO.v 36 rfl rfl (r_extract rfl rfl rfl) ?_
    refine WO.salloc 8 (cs := [.int .i64 0, .int .i64 0, .slice none 0 0]) rfl rfl rfl Try.zeroValue29 rfl H10 ?_
    intro g11 w11 H11
    refine WO.sstoreK (vs := [.int .i64 a4, .int .i64 b4, .slice A10 lv4.length c10]) rfl rfl rfl rfl rfl rfl rfl Try.sizeOf29 rfl H11 p0 rfl ?_
    intro w12 H12
    refine WO.v 9 rfl rfl (r_assignL rfl rfl) ?_
    refine WO.v 10 rfl rfl (r_assignI rfl rfl) ?_
    refine WO.done ?_
    refine Run.seq ?_
    refine Run.seq ?_
    refine Run.regionL [0, 1, 2, 3, 4, 5, 6, 7, 8, 9, 10, 11, 12, 13, 14] rfl ?_
    refine WO.v 37 rfl rfl (r_loadK (vs := [.int .i64 a4, .int .i64 b4, .slice A10 lv4.length c10]) rfl rfl Try.isAgg29 Try.sizeOf29 rfl (H12.cells p0)) ?_
    refine WO.v 38 rfl rfl (r_loadK (vs := [.int .i64 a4, .int .i64 b4, .slice A4 lv4.length c4]) rfl rfl Try.isAgg29 Try.sizeOf29 rfl (H12.cells p5)) ?_
    refine WO.call_ 39 rfl rfl Try.call14 (eqWheel_calls a4 b4 A10 c10 A4 c4 lv4 w12 (H12.rdC p1) (H12.rdC p6)) rfl rfl ?_
    rintro e w13 ⟨rfl, hb13⟩
    refine ⟨_, rfl, ?_⟩
    have H13 := H12.step hb13
    refine WO.v 40 rfl rfl (r_not rfl rfl rfl) ?_
    refine WO.v 41 rfl rfl (r_moveB rfl rfl) ?_
    refine WO.v 42 rfl rfl (r_moveL rfl rfl) ?_
    refine WO.v 43 rfl rfl (r_moveL rfl rfl) ?_
    refine WO.call_ 44 rfl rfl Try.call30 (eqIntS_calls B10 k10 B4 k4 fi4 w13 (H13.rdC p2) (H13.rdC p7)) rfl rfl ?_
    rintro e w14 ⟨rfl, hb14⟩
    refine ⟨_, rfl, ?_⟩
    have H14 := H13.step hb14
    refine WO.v 45 rfl rfl (r_not rfl rfl rfl) ?_
    refine WO.v 46 rfl rfl (r_pickB rfl rfl rfl) ?_
    refine WO.v 47 rfl rfl (r_moveB rfl rfl) ?_
    refine WO.v 48 rfl rfl (r_moveI rfl rfl) ?_
    refine WO.v 49 rfl rfl (r_moveI rfl rfl) ?_
    refine WO.v 50 rfl rfl (r_neq rfl rfl rfl (decide_eq_false (fun h => h rfl))) ?_
    refine WO.v 51 rfl rfl (r_pickB rfl rfl rfl) ?_
    refine WO.done ?_
    refine Run.condF rfl ?_
    refine Run.skip ?_
    refine Run.seq ?_
    refine Run.seq ?_
    refine Run.mix 5 (fun j => if j = 2 then 3 else 5) (fun _ => []) (fun ii v Lp => ((fun i => Nat.beq i 2 || Nat.beq i 3) ii = false → Lp = []) ∧ match ii with
        | 0 => v = .agg #[.int .i64 now, .int .i64 order, .slice A7 ((cv3 l).length) c7]
        | 1 => v = .agg #[.int .i64 now, .int .i64 order, .slice A l.length c]
        | 2 => ∃ A' c', v = .agg #[.int .i64 now, .int .i64 order, .slice A' (cv3 l).length c'] ∧ Lp = [Rw o54 54 (.slice A' (cv3 l).length c') (cv3 l)]
        | 3 => v = .bool true
        | 4 => v = .bool false
        | _ => True)
      [Bk g11 [.int .i64 a4, .int .i64 b4, .slice A10 lv4.length c10] 29, Rw o54 54 (.slice A10 lv4.length c10) lv4, Rw oI 3 (.slice B10 fi4.length k10) fi4, Bk g8 [.int .i64 now, .int .i64 order, .slice A7 ((cv3 l).length) c7] 29, Rw o54 54 (.slice A7 (cv3 l).length c7) (cv3 l), Bk g5 [.int .i64 a4, .int .i64 b4, .slice A4 lv4.length c4] 29, Rw o54 54 (.slice A4 lv4.length c4) lv4, Rw oI 3 (.slice B4 fi4.length k4) fi4, Rw o54 54 (.slice A3 (cv3 l).length c3) (cv3 l), Bk g1 [.int .i64 now, .int .i64 order, .slice A l.length c] 24] H14 (by kernel_rfl) rfl (by kernel_rfl) (by kernel_rfl) ?_ ?_
    · intro ii hii
      match ii, hii with
      | 0, _ =>
        exact ⟨_, rfl, fun τ' w' Lp Rest hfr hq HS => ⟨fun _ => opStep.val (r_loadK (vs := [.int .i64 now, .int .i64 order, .slice A7 ((cv3 l).length) c7]) rfl (show τ' 7 = .pointer (some ⟨g8, 0, none⟩) from hfr 7 (by kernel_rfl)) Try.isAgg29 Try.sizeOf29 rfl (HS.cells p3)) ⟨[], ⟨fun _ => rfl, rfl⟩, HS⟩, fun h => nomatch h⟩⟩
      | 1, _ =>
        exact ⟨_, rfl, fun τ' w' Lp Rest hfr hq HS => ⟨fun _ => opStep.val (r_loadK (vs := [.int .i64 now, .int .i64 order, .slice A l.length c]) rfl (show τ' 1 = .pointer (some ⟨g1, 0, none⟩) from hfr 1 (by kernel_rfl)) Try.isAgg24 Try.sizeOf24 rfl (HS.cells p9)) ⟨[], ⟨fun _ => rfl, rfl⟩, HS⟩, fun h => nomatch h⟩⟩
      | 2, _ =>
        refine ⟨_, rfl, fun τ' w' Lp Rest hfr hq HS => ⟨fun _ => ?_, fun h => nomatch h⟩⟩
        have h1 : τ' 53 = .agg #[.int .i64 now, .int .i64 order, .slice A l.length c] := (hq 1 (by kernel_rfl)).2
        refine opStep.call (r_call rfl rfl (args1 h1) Try.call12) (Calls.use HS .n (toWheel_tri now order A c l w' (Kd.C_below hr HS.below) hs)) ?_
        rintro e w'' ⟨LQ, ⟨A', c', rfl, rfl⟩, H2⟩
        exact ⟨_, rfl, _, ⟨fun h => Bool.noConfusion h, A', c', rfl, rfl⟩, St.into H2⟩
      | 3, _ =>
        refine ⟨_, rfl, fun τ' w' Lp Rest hfr hq HS => ⟨fun _ => ?_, fun h => nomatch h⟩⟩
        have h0 : τ' 52 = .agg #[.int .i64 now, .int .i64 order, .slice A7 ((cv3 l).length) c7] := (hq 0 (by kernel_rfl)).2
        obtain ⟨A', c', h2, hLp⟩ : ∃ A' c', τ' 54 = .agg #[.int .i64 now, .int .i64 order, .slice A' (cv3 l).length c'] ∧ Lp 2 = [Rw o54 54 (.slice A' (cv3 l).length c') (cv3 l)] := (hq 2 (by kernel_rfl)).2
        have HS2 : St w Em ([Bk g11 [.int .i64 a4, .int .i64 b4, .slice A10 lv4.length c10] 29, Rw o54 54 (.slice A10 lv4.length c10) lv4, Rw oI 3 (.slice B10 fi4.length k10) fi4, Bk g8 [.int .i64 now, .int .i64 order, .slice A7 ((cv3 l).length) c7] 29, Rw o54 54 (.slice A7 (cv3 l).length c7) (cv3 l), Bk g5 [.int .i64 a4, .int .i64 b4, .slice A4 lv4.length c4] 29, Rw o54 54 (.slice A4 lv4.length c4) lv4, Rw oI 3 (.slice B4 fi4.length k4) fi4, Rw o54 54 (.slice A3 (cv3 l).length c3) (cv3 l), Bk g1 [.int .i64 now, .int .i64 order, .slice A l.length c] 24] ++ (Lp 2 ++ []) ++ Rest) w' := HS
        rw [hLp] at HS2
        refine opStep.call (r_call rfl rfl (args2 h0 h2) Try.call14) (eqWheel_calls now order A7 c7 A' c' (cv3 l) w' (HS2.rdC p4) (HS2.rdC (.t p9))) ?_
        rintro e w'' ⟨rfl, hb⟩
        exact ⟨_, rfl, _, ⟨fun h => Bool.noConfusion h, rfl⟩, HS2.step hb⟩
      | 4, _ =>
        exact ⟨_, rfl, fun τ' w' Lp Rest hfr hq HS => ⟨fun _ => opStep.val (r_not rfl (show τ' 55 = .bool true from (hq 3 (by kernel_rfl)).2) rfl) ⟨[], ⟨fun _ => rfl, rfl⟩, HS⟩, fun h => nomatch h⟩⟩
      | n + 5, hn => exact absurd hn (by omega)
    · intro τ' w15 Lp hQ hfr HS'
      rw [fm_pick (pr := fun i => Nat.beq i 2 || Nat.beq i 3) (l := [3]) (fun j hj => (hQ j hj).1) (by kernel_rfl)] at HS'
      have HS := HS'
      rw [show [3].flatMap Lp = Lp 3 ++ [] from rfl] at HS
      have H15 := HS.sel (.c q0 (.c q0 (.c q0 (.c q0 (.c q0 (.c q0 (.c q0 (.c q0 (.c q0 (.c q0 .n))))))))))
      have f0 : τ' 0 = .agg #[.int .i64 now, .int .i64 order, .slice A l.length c] := hfr 0 (by kernel_rfl)
      have f1 : τ' 1 = .pointer (some ⟨g1, 0, none⟩) := hfr 1 (by kernel_rfl)
      have f2 : τ' 2 = .bool false := hfr 2 (by kernel_rfl)
      have f3 : τ' 3 = .int .i64 r := hfr 3 (by kernel_rfl)
      have f4 : τ' 4 = .pointer (some ⟨g5, 0, none⟩) := hfr 4 (by kernel_rfl)
      have f5 : τ' 5 = .slice B4 fi4.length k4 := hfr 5 (by kernel_rfl)
      have f6 : τ' 6 = .int .i64 d4 := hfr 6 (by kernel_rfl)
      have f7 : τ' 7 = .pointer (some ⟨g8, 0, none⟩) := hfr 7 (by kernel_rfl)
      have f8 : τ' 8 = .pointer (some ⟨g11, 0, none⟩) := hfr 8 (by kernel_rfl)
      have f9 : τ' 9 = .slice B10 fi4.length k10 := hfr 9 (by kernel_rfl)
      have f10 : τ' 10 = .int .i64 d4 := hfr 10 (by kernel_rfl)
      have f17 : τ' 17 = .agg #[.int .i64 now, .int .i64 order, .slice A l.length c] := hfr 17 (by kernel_rfl)
      have f18 : τ' 18 = .int .i64 1048576 := hfr 18 (by kernel_rfl)
      have f19 : τ' 19 = .int .i64 r := hfr 19 (by kernel_rfl)
      have f20 : τ' 20 = .int .i64 r := hfr 20 (by kernel_rfl)
      have f21 : τ' 21 = .bool (decide (r < 0)) := hfr 21 (by kernel_rfl)
      have f22 : τ' 22 = .tuple #[.agg #[.int .i64 a4, .int .i64 b4, .slice A4 lv4.length c4], .slice B4 fi4.length k4, .int .i64 d4] := hfr 22 (by kernel_rfl)
      have f23 : τ' 23 = .agg #[.int .i64 now, .int .i64 order, .slice A l.length c] := hfr 23 (by kernel_rfl)
      have f24 : τ' 24 = .agg #[.int .i64 now, .int .i64 order, .slice A3 ((cv3 l).length) c3] := hfr 24 (by kernel_rfl)
      have f25 : τ' 25 = .tuple #[.agg #[.int .i64 a4, .int .i64 b4, .slice A4 lv4.length c4], .slice B4 fi4.length k4, .int .i64 d4] := hfr 25 (by kernel_rfl)
      have f26 : τ' 26 = .agg #[.int .i64 a4, .int .i64 b4, .slice A4 lv4.length c4] := hfr 26 (by kernel_rfl)
      have f27 : τ' 27 = .slice B4 fi4.length k4 := hfr 27 (by kernel_rfl)
      have f28 : τ' 28 = .int .i64 d4 := hfr 28 (by kernel_rfl)
      have f29 : τ' 29 = .agg #[.int .i64 now, .int .i64 order, .slice A l.length c] := hfr 29 (by kernel_rfl)
      have f30 : τ' 30 = .agg #[.int .i64 now, .int .i64 order, .slice A7 ((cv3 l).length) c7] := hfr 30 (by kernel_rfl)
      have f31 : τ' 31 = .tuple #[.agg #[.int .i64 a4, .int .i64 b4, .slice A10 lv4.length c10], .slice B10 fi4.length k10, .int .i64 d4] := hfr 31 (by kernel_rfl)
      have f32 : τ' 32 = .agg #[.int .i64 now, .int .i64 order, .slice A7 ((cv3 l).length) c7] := hfr 32 (by kernel_rfl)
      have f33 : τ' 33 = .tuple #[.agg #[.int .i64 a4, .int .i64 b4, .slice A10 lv4.length c10], .slice B10 fi4.length k10, .int .i64 d4] := hfr 33 (by kernel_rfl)
      have f34 : τ' 34 = .agg #[.int .i64 a4, .int .i64 b4, .slice A10 lv4.length c10] := hfr 34 (by kernel_rfl)
      have f35 : τ' 35 = .slice B10 fi4.length k10 := hfr 35 (by kernel_rfl)
      have f36 : τ' 36 = .int .i64 d4 := hfr 36 (by kernel_rfl)
      have f37 : τ' 37 = .agg #[.int .i64 a4, .int .i64 b4, .slice A10 lv4.length c10] := hfr 37 (by kernel_rfl)
      have f38 : τ' 38 = .agg #[.int .i64 a4, .int .i64 b4, .slice A4 lv4.length c4] := hfr 38 (by kernel_rfl)
      have f39 : τ' 39 = .bool true := hfr 39 (by kernel_rfl)
      have f56 : τ' 56 = .bool false := (hQ 4 (by decide)).2
      clear HS HS' hQ hfr
      refine (WO.done ?_ : WO _ _ _ _ _ _ [] _ _)
      refine Run.condF f56 ?_
      refine Run.skip ?_
      refine Run.seq ?_
      refine Run.regionL [0] rfl ?_
      refine WO.v 11 rfl rfl (r_assignI rfl rfl) ?_
      refine WO.done ?_
      refine Run.seq ?_
      refine Run.regionL [0, 1, 2, 3] rfl ?_
      refine WO.v 57 rfl rfl (r_loadK (vs := [.int .i64 now, .int .i64 order, .slice A7 ((cv3 l).length) c7]) rfl f7 Try.isAgg29 Try.sizeOf29 rfl (H15.cells p3)) ?_
      refine WO.v 58 rfl rfl (r_moveI rfl rfl) ?_
      refine WO.scall 59 rfl rfl Try.call23 H15 (.c q4 .n) (markWheel_tri now order A7 c7 (cv3 l) 1 w15 (by omega) hkX) rfl rfl ?_
      rintro e LQ w16 ⟨rfl, rfl⟩ H16
      refine ⟨_, rfl, ?_⟩
      refine WO.v 11 rfl rfl (r_assignI rfl rfl) ?_
      refine WO.done ?_
      refine Run.seq ?_
      refine Run.seq ?_
      refine Run.regionL [0, 1, 2, 3, 4, 5, 6, 7, 8, 9, 10, 11, 12, 13, 14, 15, 16, 17, 18] rfl ?_
      refine WO.v 60 rfl rfl (r_moveI rfl rfl) ?_
      refine WO.v 61 rfl rfl (r_lss rfl rfl rfl (decide_eq_false (show ¬ (1 + (cnW (cv3 l) : Int) < 0) by omega))) ?_
      refine WO.v 62 rfl rfl (r_moveB rfl rfl) ?_
      refine WO.v 63 rfl rfl (r_loadK (vs := [.int .i64 a4, .int .i64 b4, .slice A10 lv4.length c10]) rfl f8 Try.isAgg29 Try.sizeOf29 rfl (H16.cells p1)) ?_
      refine WO.v 64 rfl rfl (r_loadK (vs := [.int .i64 a4, .int .i64 b4, .slice A4 lv4.length c4]) rfl f4 Try.isAgg29 Try.sizeOf29 rfl (H16.cells p5)) ?_
      refine WO.call_ 65 rfl rfl Try.call14 (eqWheel_calls a4 b4 A10 c10 A4 c4 lv4 w16 (H16.rdC p2) (H16.rdC p6)) rfl rfl ?_
      rintro e w17 ⟨rfl, hb17⟩
      refine ⟨_, rfl, ?_⟩
      have H17 := H16.step hb17
      refine WO.v 66 rfl rfl (r_not rfl rfl rfl) ?_
      refine WO.v 67 rfl rfl (r_pickB rfl rfl rfl) ?_
      refine WO.v 68 rfl rfl (r_moveB rfl rfl) ?_
      refine WO.v 69 rfl rfl (r_moveL rfl f9) ?_
      refine WO.v 70 rfl rfl (r_moveL rfl f5) ?_
      refine WO.call_ 71 rfl rfl Try.call30 (eqIntS_calls B10 k10 B4 k4 fi4 w17 (H17.rdC p3) (H17.rdC p7)) rfl rfl ?_
      rintro e w18 ⟨rfl, hb18⟩
      refine ⟨_, rfl, ?_⟩
      have H18 := H17.step hb18
      refine WO.v 72 rfl rfl (r_not rfl rfl rfl) ?_
      refine WO.v 73 rfl rfl (r_pickB rfl rfl rfl) ?_
      refine WO.v 74 rfl rfl (r_moveB rfl rfl) ?_
      refine WO.v 75 rfl rfl (r_moveI rfl f10) ?_
      refine WO.v 76 rfl rfl (r_moveI rfl f6) ?_
      refine WO.v 77 rfl rfl (r_neq rfl rfl rfl (decide_eq_false (fun h => h rfl))) ?_
      refine WO.v 78 rfl rfl (r_pickB rfl rfl rfl) ?_
      refine WO.done ?_
      refine Run.condF rfl ?_
      refine Run.skip ?_
      refine Run.seq ?_
      refine Run.regionL [0] rfl ?_
      refine WO.v 12 rfl rfl (r_assignI rfl rfl) ?_
      refine WO.done ?_
      refine Run.seq ?_
      refine Run.regionL [0, 1, 2, 3] rfl ?_
      refine WO.v 79 rfl rfl (r_loadK (vs := [.int .i64 a4, .int .i64 b4, .slice A10 lv4.length c10]) rfl f8 Try.isAgg29 Try.sizeOf29 rfl (H18.cells p1)) ?_
      refine WO.v 80 rfl rfl (r_moveI rfl rfl) ?_
      refine WO.scall 81 rfl rfl Try.call23 H18 (.c q2 .n) (markWheel_tri a4 b4 A10 c10 lv4 1 w18 (by omega) hkG) rfl rfl ?_
      rintro e LQ w19 ⟨rfl, rfl⟩ H19
      refine ⟨_, rfl, ?_⟩
      refine WO.v 12 rfl rfl (r_assignI rfl rfl) ?_
      refine WO.done ?_
      refine Run.seq ?_
      refine Run.regionL [0, 1, 2, 3] rfl ?_
      refine WO.v 82 rfl rfl (r_moveL rfl f9) ?_
      refine WO.v 83 rfl rfl (r_moveI rfl rfl) ?_
      have hkI : 1 + (cnW lv4 : Int) + fi4.length ≤ 4611686018427387904 := by rw [cnW_eq]; omega
      refine WO.scall 84 rfl rfl Try.call31 H19 (.c q3 .n) (markIntS_tri B10 k10 fi4 (1 + (cnW lv4 : Int)) w19 (by omega) hkI) rfl rfl ?_
      rintro e LQ w20 ⟨rfl, rfl⟩ H20
      refine ⟨_, rfl, ?_⟩
      refine WO.v 12 rfl rfl (r_assignI rfl rfl) ?_
      refine WO.done ?_
      refine Run.seq ?_
      refine Run.regionL [0] rfl ?_
      refine WO.v 13 rfl rfl (r_assignI rfl rfl) ?_
      refine WO.done ?_
      refine Run.seq ?_
      refine Run.regionL [0, 1, 2, 3] rfl ?_
      refine WO.v 85 rfl rfl (r_loadK (vs := [.int .i64 a4, .int .i64 b4, .slice A10 lv4.length c10]) rfl f8 Try.isAgg29 Try.sizeOf29 rfl (H20.cells p3)) ?_
      refine WO.v 86 rfl rfl (r_moveI rfl rfl) ?_
      refine WO.call_ 87 rfl rfl Try.call24 (heldWheel_calls a4 b4 A10 c10 lv4 1 w20 (by omega) hkG (by have := (H20.rd p1).2.2; rwa [mkW_len] at this)) rfl rfl ?_
      rintro e w21 ⟨rfl, hb21⟩
      refine ⟨_, rfl, ?_⟩
      have H21 := H20.step hb21
      refine WO.v 13 rfl rfl (r_assignI rfl rfl) ?_
      refine WO.done ?_
      refine Run.seq ?_
      refine Run.seq ?_
      refine Run.regionL [0, 1] rfl ?_
      refine WO.v 88 rfl rfl (r_moveI rfl rfl) ?_
      refine WO.v 89 rfl rfl (r_lss rfl rfl rfl (decide_eq_false (show ¬ (1 + (cnW lv4 : Int) < 0) by omega))) ?_
      refine WO.done ?_
      refine Run.condF rfl ?_
      refine Run.skip ?_
      refine Run.seq ?_
      refine Run.regionL [0, 1, 2, 3] rfl ?_
      refine WO.v 90 rfl rfl (r_moveL rfl f9) ?_
      refine WO.v 91 rfl rfl (r_moveI rfl rfl) ?_
      refine WO.call_ 92 rfl rfl Try.call32 (heldIntS_calls B10 k10 fi4 (1 + (cnW lv4 : Int)) w21 (by omega) hkI (by have := (H21.rd p0).2.2; rwa [mkIs_len] at this)) rfl rfl ?_
      rintro e w22 ⟨rfl, hb22⟩
      refine ⟨_, rfl, ?_⟩
      have H22 := H21.step hb22
      refine WO.v 13 rfl rfl (r_assignI rfl rfl) ?_
      refine WO.done ?_
      refine Run.seq ?_
      refine Run.seq ?_
      refine Run.regionL [0, 1] rfl ?_
      refine WO.v 93 rfl rfl (r_moveI rfl rfl) ?_
      refine WO.v 94 rfl rfl (r_lss rfl rfl rfl (decide_eq_false (show ¬ (1 + (cnW lv4 : Int) + (fi4.length : Int) < 0) by omega))) ?_
      refine WO.done ?_
      refine Run.condF rfl ?_
      refine Run.skip ?_
      refine Run.seq ?_
      refine Run.seq ?_
      refine Run.regionL [0, 1, 2] rfl ?_
      refine WO.v 95 rfl rfl (r_moveI rfl rfl) ?_
      refine WO.v 96 rfl rfl (r_moveI rfl rfl) ?_
      refine WO.v 97 rfl rfl (r_neq rfl rfl rfl (decide_eq_false (fun h => h rfl))) ?_
      refine WO.done ?_
      refine Run.condF rfl ?_
      refine Run.skip ?_
      refine Run.seq ?_
      refine Run.regionL [0, 1, 2, 3, 4, 5, 6, 7, 8, 9, 10] rfl ?_
      refine WO.v 99 rfl rfl (r_loadK (vs := [.int .i64 now, .int .i64 order, .slice A l.length c]) rfl f1 Try.isAgg24 Try.sizeOf24 rfl (H22.cells p9)) ?_
      refine WO.scall 100 rfl rfl Try.call12 H22 .n (toWheel_tri now order A c l w22 (Kd.C_below hr H22.below) hs) rfl rfl ?_
      rintro e LQ w23 ⟨A23, c23, rfl, rfl⟩ H23
      refine ⟨_, rfl, ?_⟩
      refine WO.scall 101 rfl rfl Try.call28 H23 .n (implTick_tri now order A23 c23 (cv3 l) w23 (H23.rdC p0) hbig) rfl rfl ?_
      rintro e LQ w24 ⟨a24, b24, lv24, fi24, d24, A24, c24, B24, k24, rfl, rfl, hI24⟩ H24
      refine ⟨_, rfl, ?_⟩
      obtain ⟨rfl, rfl, rfl, rfl, rfl⟩ := hW.uniq hI24
      refine WO.v 98 rfl rfl (r_moveT rfl rfl) ?_
      refine WO.v 102 rfl rfl (r_extract rfl rfl rfl) ?_
      refine WO.v 103 rfl rfl (r_extract rfl rfl rfl) ?_
      refine WO.v 104 rfl rfl (r_extract rfl rfl rfl) ?_
      refine WO.salloc 14 (cs := [.int .i64 0, .int .i64 0, .slice none 0 0]) rfl rfl rfl Try.zeroValue29 rfl H24 ?_
      intro g25 w25 H25
      refine WO.sstoreK (vs := [.int .i64 a4, .int .i64 b4, .slice A24 lv4.length c24]) rfl rfl rfl rfl rfl rfl rfl Try.sizeOf29 rfl H25 p0 rfl ?_
      intro w26 H26
      refine WO.v 15 rfl rfl (r_assignL rfl rfl) ?_
      refine WO.v 16 rfl rfl (r_assignI rfl rfl) ?_
      refine WO.done ?_
      refine Run.seq ?_
      refine Run.seq ?_
      refine Run.regionL [0, 1, 2, 3, 4, 5, 6, 7, 8, 9, 10, 11, 12, 13, 14] rfl ?_
      refine WO.v 105 rfl rfl (r_loadK (vs := [.int .i64 a4, .int .i64 b4, .slice A24 lv4.length c24]) rfl rfl Try.isAgg29 Try.sizeOf29 rfl (H26.cells p0)) ?_
      refine WO.v 106 rfl rfl (r_loadK (vs := [.int .i64 a4, .int .i64 b4, .slice A4 lv4.length c4]) rfl f4 Try.isAgg29 Try.sizeOf29 rfl (H26.cells p9)) ?_
      refine WO.call_ 107 rfl rfl Try.call14 (eqWheel_calls a4 b4 A24 c24 A4 c4 lv4 w26 (H26.rdC p1) (H26.rdC (.t p9))) rfl rfl ?_
      rintro e w27 ⟨rfl, hb27⟩
      refine ⟨_, rfl, ?_⟩
      have H27 := H26.step hb27
      refine WO.v 108 rfl rfl (r_not rfl rfl rfl) ?_
      refine WO.v 109 rfl rfl (r_moveB rfl rfl) ?_
      refine WO.v 110 rfl rfl (r_moveL rfl rfl) ?_
      refine WO.v 111 rfl rfl (r_moveL rfl f5) ?_
      refine WO.call_ 112 rfl rfl Try.call30 (eqIntS_calls B24 k24 B4 k4 fi4 w27 (H27.rdC p2) (H27.rdC (.t (.t p9)))) rfl rfl ?_
      rintro e w28 ⟨rfl, hb28⟩
      refine ⟨_, rfl, ?_⟩
      have H28 := H27.step hb28
      refine WO.v 113 rfl rfl (r_not rfl rfl rfl) ?_
      refine WO.v 114 rfl rfl (r_pickB rfl rfl rfl) ?_
      refine WO.v 115 rfl rfl (r_moveB rfl rfl) ?_
      refine WO.v 116 rfl rfl (r_moveI rfl rfl) ?_
      refine WO.v 117 rfl rfl (r_moveI rfl f6) ?_
      refine WO.v 118 rfl rfl (r_neq rfl rfl rfl (decide_eq_false (fun h => h rfl))) ?_
      refine WO.v 119 rfl rfl (r_pickB rfl rfl rfl) ?_
      refine WO.done ?_
      refine Run.condF rfl ?_
      refine Run.skip ?_
      refine Run.seq ?_
      refine Run.regionL [0] rfl ?_
      refine WO.v 13 rfl rfl (r_assignI rfl rfl) ?_
      refine WO.done ?_
      refine Run.seq ?_
      refine Run.regionL [0, 1, 2, 3] rfl ?_
      refine WO.v 120 rfl rfl (r_loadK (vs := [.int .i64 a4, .int .i64 b4, .slice A10 lv4.length c10]) rfl f8 Try.isAgg29 Try.sizeOf29 rfl (H28.cells p7)) ?_
      refine WO.v 121 rfl rfl (r_moveI rfl rfl) ?_
      refine WO.call_ 122 rfl rfl Try.call24 (heldWheel_calls a4 b4 A10 c10 lv4 1 w28 (by omega) hkG (by have := (H28.rd p5).2.2; rwa [mkW_len] at this)) rfl rfl ?_
      rintro e w29 ⟨rfl, hb29⟩
      refine ⟨_, rfl, ?_⟩
      have H29 := H28.step hb29
      refine WO.v 13 rfl rfl (r_assignI rfl rfl) ?_
      refine WO.done ?_
      refine Run.seq ?_
      refine Run.seq ?_
      refine Run.regionL [0, 1] rfl ?_
      refine WO.v 123 rfl rfl (r_moveI rfl rfl) ?_
      refine WO.v 124 rfl rfl (r_lss rfl rfl rfl (decide_eq_false (show ¬ (1 + (cnW lv4 : Int) < 0) by omega))) ?_
      refine WO.done ?_
      refine Run.condF rfl ?_
      refine Run.skip ?_
      refine Run.seq ?_
      refine Run.regionL [0, 1, 2, 3] rfl ?_
      refine WO.v 125 rfl rfl (r_moveL rfl f9) ?_
      refine WO.v 126 rfl rfl (r_moveI rfl rfl) ?_
      refine WO.call_ 127 rfl rfl Try.call32 (heldIntS_calls B10 k10 fi4 (1 + (cnW lv4 : Int)) w29 (by omega) hkI (by have := (H29.rd p4).2.2; rwa [mkIs_len] at this)) rfl rfl ?_
      rintro e w30 ⟨rfl, hb30⟩
      refine ⟨_, rfl, ?_⟩
      have H30 := H29.step hb30
      refine WO.v 13 rfl rfl (r_assignI rfl rfl) ?_
      refine WO.done ?_
      refine Run.seq ?_
      refine Run.seq ?_
      refine Run.regionL [0, 1] rfl ?_
      refine WO.v 128 rfl rfl (r_moveI rfl rfl) ?_
      refine WO.v 129 rfl rfl (r_lss rfl rfl rfl (decide_eq_false (show ¬ (1 + (cnW lv4 : Int) + (fi4.length : Int) < 0) by omega))) ?_
      refine WO.done ?_
      refine Run.condF rfl ?_
      refine Run.skip ?_
      refine Run.seq ?_
      refine Run.seq ?_
      refine Run.regionL [0, 1, 2] rfl ?_
      refine WO.v 130 rfl rfl (r_moveI rfl rfl) ?_
      refine WO.v 131 rfl rfl (r_moveI rfl rfl) ?_
      refine WO.v 132 rfl rfl (r_neq rfl rfl rfl (decide_eq_false (fun h => h rfl))) ?_
      refine WO.done ?_
      refine Run.condF rfl ?_
      refine Run.skip ?_
      refine Run.seq ?_
      refine Run.regionL [0] rfl ?_
      refine WO.v 2 rfl rfl (r_assignB rfl rfl) ?_
      refine WO.done ?_
      exact Run.ret1 (v1 := .bool true) Try.func9 Try.results9 rfl ⟨rfl, H30.below⟩
theorem fnExactWheelTick_walk (w : World) {x : Int × Int × List (List (List S111))} {cs : List Value} (h : kd24.K w x cs) : Calls Try.prog 9 #[.agg ⟨cs⟩] w fun e w' => e = .returned (.bool true) ∧ Below w.heap.size w w' := by
  obtain ⟨_, _, rfl, rfl, _, _, rfl, rfl, A, c, rfl, hc, hr⟩ := h
  exact lawTick_calls x.1 x.2.1 A c x.2.2 w hr hc
end Go.Proofs.Ytojpimpfpjhflaa.Wh
namespace Go.Proofs.Ytojpimpfpjhflaa.fnExactWheelTick
open Go.ChangeShapes Go.WideShapes Go.ChangeAt Go.RowKit
open Go.ChangeMaps (open_string shut_string)
set_option linter.unusedVariables false
theorem own : ownKnob Try.prog.godebug = none := by kernel_rfl
theorem laidOut : laidOutB Try.prog = true := by kernel_rfl
set_option maxRecDepth 100000 in
theorem lifted (os : Os) (started : os.Started) (H : Type) (enc : TypeId × Value → H) :
    ReturnsInHanded {} Try.checked os 9 .any (Rows.fnExactWheelTickSpec.pre6 enc Try.prog Try.f9 Rows.fnExactWheelTickRow.domain false) (Rows.fnExactWheelTickSpec.post enc Try.prog Try.f9 false true false false) := by
  refine returnsInHanded_of_change_sized (C := Try.checked) own started (by kernel_rfl) Try.func9
    (ChangeSpec.witness6 (enc := enc) (C := Try.checked) false ⟨#[], #[.agg #[.int .i64 0, .int .i64 0, .slice none 0 0]], []⟩ 8 (by kernel_rfl) (by kernel_rfl) (by kernel_rfl) (by kernel_rfl)) ?_
  intro W base args ds gs before hval0 hW hcnd hsz0 _
  have hval : ∀ (j : Nat) t v, Try.f9.params[j]? = some t → args[j]? = some v → Value.okWide Try.prog W .any base t v := hval0
  have hW' := hW
  obtain ⟨p, q, hA0, hV, rfl, hfz, hnd⟩ := hW
  have hA : DataW.TrodAll enc Try.prog W 0 (fun _ => true) true Try.f9.params.toList args.toList ds p := hA0
  rw [Try.params9] at hA hval
  obtain ⟨v0, vs0, d0, ds0, p0, q0, hargs, rfl, rfl, h0, r0⟩ := trodAll_cons hA
  obtain ⟨rfl, rfl, rfl⟩ := trodAll_nil r0
  obtain rfl : args = #[v0] := by cases args; simp_all
  obtain ⟨rfl, rfl⟩ := trodVars_none hV
  have k0 := h0
  have lt0 : ∀ x ∈ p0, x.block < W.heap.size := by obtain ⟨m, hm⟩ := k0; exact DataW.trod_lt m _ _ _ hm
  obtain ⟨⟨a0⟩, rfl, _⟩ := okWide_struct Try.underlying24 (hval 0 24 v0 rfl rfl)
  obtain ⟨x0, g0⟩ : ∃ x, (Wh.kd24).K W x a0 := by obtain ⟨m, hm⟩ := h0; exact Wh.opens24 hm
  clear hA0 hval0 hsz0
  refine (Wh.fnExactWheelTick_walk W g0).mono fun e W' ⟨he, bel⟩ => ?_
  subst he
  exact ⟨_, rfl, _, _, _, [], _, [], hW', trodAll_mk1 (shut_bool Try.underlying4 _), (trodAll_cons_mk (Below.trod laidOut (by kernel_rfl) (of_decide_eq_true (by kernel_rfl)) k0 bel lt0) trodAll_mk0), rfl, bel.frame _, fun h => by cases h⟩
theorem over : Rows.fnExactWheelTickRow.holds Try.pinned (OpenSpec.ofChange Rows.fnExactWheelTickSpec) :=
  OpenClaim.holds_of_wide 9 Try.f9 rfl rfl rfl rfl rfl rfl rfl ⟨rfl, rfl, rfl, rfl, rfl⟩ rfl rfl rfl rfl rfl (by kernel_rfl) Try.func9 (by kernel_rfl)
    (of_decide_eq_true (by kernel_rfl)) (by unfold Func.isWrapper; first | (rw [if_pos (by decide +kernel)]; kernel_rfl) | (rw [if_neg (by decide +kernel)]; exact ⟨rfl, rfl⟩))
    (fun os started H enc _ => lifted os started H enc)
theorem proved : Rows.FnExactWheelTickSaid := over
#print axioms proved
end Go.Proofs.Ytojpimpfpjhflaa.fnExactWheelTick
namespace Go.Proofs.Ytojpimpfpjhflaa
/-- The row, under a short name, for the claim. -/
theorem fnExactWheelTick_holds : Rows.FnExactWheelTickSaid := fnExactWheelTick.proved
end Go.Proofs.Ytojpimpfpjhflaa
