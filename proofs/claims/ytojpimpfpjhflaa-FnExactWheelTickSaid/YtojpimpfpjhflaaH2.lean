/- The wheel: (*ticker).wheel, l11Own and marks; no condition. -/
import Derived.Test.YtojpimpfpjhflaaH1
namespace Go.Proofs.Ytojpimpfpjhflaa.Wh
open Go.RowKit Go.Proofs.Ytojpimpfpjhflaa.Fw Go.Proofs.YtojpimpfpjhflaaW.PrintWords Go.Proofs.Ytojpimpfpjhflaa.PFnExactWheelOK
set_option linter.unusedVariables false
set_option linter.unusedSimpArgs false
def mkT (x : S57) (k : Int) : S57 := ⟨k, k + 1, k + 2⟩
def cnT (x : S57) : Nat := 3
theorem own57_open {w : World} {S : Fp} {x : S57} {vs : List Value} (h : o57.own w S x vs) : vs = [.int .i64 x.f0, .int .i64 x.f1, .int .i64 x.f2] := by
  obtain ⟨_, _, _, _, rfl, rfl, ⟨_, _, _, _, rfl, rfl, rfl, _⟩, _⟩ := h
  rfl
theorem own57_mk (w : World) (S : Fp) (x : S57) : o57.own w S x [.int .i64 x.f0, .int .i64 x.f1, .int .i64 x.f2] := o57.mono (flat57 (k57_mk w x)) fun _ h => h.elim
theorem set57_0 {w : World} {S : Fp} {x : S57} {vs : List Value} {a : Int} (h : o57.own w S x vs) : o57.own w S ⟨a, x.f1, x.f2⟩ (vs.set 0 (.int .i64 a)) := by rw [own57_open h]; exact own57_mk w S ⟨a, x.f1, x.f2⟩
theorem set57_1 {w : World} {S : Fp} {x : S57} {vs : List Value} {a : Int} (h : o57.own w S x vs) : o57.own w S ⟨x.f0, a, x.f2⟩ (vs.set 1 (.int .i64 a)) := by rw [own57_open h]; exact own57_mk w S ⟨x.f0, a, x.f2⟩
theorem set57_2 {w : World} {S : Fp} {x : S57} {vs : List Value} {a : Int} (h : o57.own w S x vs) : o57.own w S ⟨x.f0, x.f1, a⟩ (vs.set 2 (.int .i64 a)) := by rw [own57_open h]; exact own57_mk w S ⟨x.f0, x.f1, a⟩
theorem cnT_eq (x : S57) : cnT x = 3 := rfl

theorem markTimerS_tri (A : Option Addr) (c : Nat) (xs : List S57) (k : Int) (w : World) (h0k : 0 ≤ k) (hk : k + sumOf cnT xs ≤ 4611686018427387904) :
    Tri Try.prog 77 #[.slice A xs.length c, .int .i64 k] w [Rw o57 57 (.slice A xs.length c) xs] fun e LQ => e = .returned (.int .i64 (k + sumOf cnT xs)) ∧ LQ = [Rw o57 57 (.slice A xs.length c) (mkL mkT cnT xs k)] := by
  refine tri_of_run (fn := Try.f77) (n := 34) Try.func77 rfl Try.ntmps77 (Nat.le_of_ble_eq_true rfl) fun S H => ?_
  obtain ⟨S9, hrow9, _⟩ := H.get p0
  have hbig : xs.length ≤ 9223372036854775807 := (H.rd p0).2.2.2.1
  refine Run.seq (Run.regionL [0] rfl ?_)
  refine WO.v 4 rfl rfl (r_assignI rfl rfl) ?_
  refine WO.done (Run.seq (Run.seq (Run.regionL [0] rfl ?_)))
  refine WO.v 5 rfl rfl (r_assignI rfl rfl) ?_
  refine WO.done (Run.block ?_)
  refine Run.loopInv (fun m τ wr => ∃ (i : Nat) (ys : List S57) (kk : Int), i + m = xs.length ∧ ys = mkL mkT cnT (xs.take i) k ++ xs.drop i ∧ kk = k + sumOf cnT (xs.take i) ∧ τ 0 = .slice A ys.length c ∧ τ 1 = .int .i64 kk ∧ τ 5 = .int .i64 i ∧ St w S [Rw o57 57 (.slice A ys.length c) ys] wr) xs.length ⟨0, xs, k, by omega, by simp [mkL], by simp [sumOf], rfl, rfl, rfl, H⟩ ?_
  clear H
  rintro m τ wr ih ⟨i, ys, kk, hm, hys, hkk, h0, h1, h5, H⟩
  have hyl : ys.length = xs.length := by rw [hys]; exact mkL_mid _ _ xs k i
  have hle := sum_take_le cnT xs i
  refine Run.seq (Run.seq (Run.regionL [0, 1, 2, 3] rfl ?_))
  refine WO.v 6 rfl rfl (r_moveI rfl h5) ?_
  refine WO.v 7 rfl rfl (r_moveL rfl h0) ?_
  refine WO.v 8 rfl rfl (r_len (e := 57) rfl rfl Try.underlying55) ?_
  refine WO.v 9 rfl rfl (r_lss rfl rfl rfl rfl) ?_
  refine WO.done (Run.test rfl (fun hq => ?_) (fun hq => ?_))
  · have hi : i < xs.length := by omega
    have hst := sum_take cnT xs z57 i hi
    rw [cnT_eq] at hst
    have hle2 := sum_take_le cnT xs (i + 1)
    have hat : ys[i]? = some (xs.getD i z57) := by rw [hys]; exact mkL_at _ _ z57 xs k i hi
    have hstep : ys.set i (mkT (xs.getD i z57) kk) = mkL mkT cnT (xs.take (i + 1)) k ++ xs.drop (i + 1) := by rw [hys, hkk]; exact mkL_step _ _ z57 xs k i hi
    have hyi : i < ys.length := by omega
    obtain ⟨g, rfl, _⟩ := H.lies p0 (by omega)
    refine Run.skip (Run.seq (Run.block (Run.seq (Run.regionL [0, 1, 2, 3, 4, 5] rfl ?_))))
    refine WO.v 12 rfl rfl (r_moveL rfl h0) ?_
    refine WO.v 13 rfl rfl (r_moveI rfl h5) ?_
    refine WO.v 14 rfl rfl (r_moveI rfl h1) ?_
    refine WO.v 15 rfl rfl (r_indexAddr rfl rfl rfl Try.underlying55 Try.sizeOf57 (by omega) (by omega) (q := 0 + i * 3) (by rw [Int.toNat_natCast])) ?_
    refine WO.v 16 rfl rfl (r_fieldAddr rfl rfl Try.underlying57 rfl Try.sizeOf3 (q := 0 + i * 3 + 0) rfl) ?_
    refine WO.scell (j := i) (r := 0) (x1 := (⟨kk, (xs.getD i z57).f1, (xs.getD i z57).f2⟩ : S57)) rfl rfl rfl rfl rfl rfl Try.sizeOf3 H p0 hat (by show 0 + i * 3 + 0 = i * 3 + 0; omega) (by decide) (fun _ _ _ h => set57_0 h) ?_
    intro wS0 HS0
    have H1 : St w S [Rw o57 57 (.slice (some ⟨g, 0, none⟩) (ys.set i (⟨kk, (xs.getD i z57).f1, (xs.getD i z57).f2⟩ : S57)).length c) (ys.set i (⟨kk, (xs.getD i z57).f1, (xs.getD i z57).f2⟩ : S57))] wS0 := by rw [List.length_set]; exact HS0
    have hat1 : (ys.set i (⟨kk, (xs.getD i z57).f1, (xs.getD i z57).f2⟩ : S57))[i]? = some ⟨kk, (xs.getD i z57).f1, (xs.getD i z57).f2⟩ := by rw [List.getElem?_set_self hyi]
    refine WO.done (Run.seq (Run.regionL [0, 1, 2] rfl ?_))
    refine WO.v 17 rfl rfl (r_moveI rfl h1) ?_
    refine WO.v 18 rfl rfl (r_add rfl rfl rfl (c := kk + 1) ((wrap_in (by omega) (by omega)).trans (by omega))) ?_
    refine WO.v 1 rfl rfl (r_assignI rfl rfl) ?_
    refine WO.done (Run.seq (Run.regionL [0, 1, 2, 3, 4, 5] rfl ?_))
    refine WO.v 19 rfl rfl (r_moveL rfl h0) ?_
    refine WO.v 20 rfl rfl (r_moveI rfl h5) ?_
    refine WO.v 21 rfl rfl (r_moveI rfl rfl) ?_
    refine WO.v 22 rfl rfl (r_indexAddr rfl rfl rfl Try.underlying55 Try.sizeOf57 (by omega) (by omega) (q := 0 + i * 3) (by rw [Int.toNat_natCast])) ?_
    refine WO.v 23 rfl rfl (r_fieldAddr rfl rfl Try.underlying57 rfl Try.sizeOf3 (q := 0 + i * 3 + 1) rfl) ?_
    refine WO.scell (j := i) (r := 1) (x1 := (⟨kk, kk + 1, (xs.getD i z57).f2⟩ : S57)) rfl rfl rfl rfl rfl rfl Try.sizeOf3 H1 p0 hat1 (by show 0 + i * 3 + 1 = i * 3 + 1; omega) (by decide) (fun _ _ _ h => set57_1 h) ?_
    intro wS1 HS1
    have H2 : St w S [Rw o57 57 (.slice (some ⟨g, 0, none⟩) (ys.set i (⟨kk, kk + 1, (xs.getD i z57).f2⟩ : S57)).length c) (ys.set i (⟨kk, kk + 1, (xs.getD i z57).f2⟩ : S57))] wS1 := by rw [List.length_set]; rw [List.set_set, List.length_set] at HS1; exact HS1
    have hat2 : (ys.set i (⟨kk, kk + 1, (xs.getD i z57).f2⟩ : S57))[i]? = some ⟨kk, kk + 1, (xs.getD i z57).f2⟩ := by rw [List.getElem?_set_self hyi]
    refine WO.done (Run.seq (Run.regionL [0, 1, 2] rfl ?_))
    refine WO.v 24 rfl rfl (r_moveI rfl rfl) ?_
    refine WO.v 25 rfl rfl (r_add rfl rfl rfl (c := kk + 2) ((wrap_in (by omega) (by omega)).trans (by omega))) ?_
    refine WO.v 1 rfl rfl (r_assignI rfl rfl) ?_
    refine WO.done (Run.seq (Run.regionL [0, 1, 2, 3, 4, 5] rfl ?_))
    refine WO.v 26 rfl rfl (r_moveL rfl h0) ?_
    refine WO.v 27 rfl rfl (r_moveI rfl h5) ?_
    refine WO.v 28 rfl rfl (r_moveI rfl rfl) ?_
    refine WO.v 29 rfl rfl (r_indexAddr rfl rfl rfl Try.underlying55 Try.sizeOf57 (by omega) (by omega) (q := 0 + i * 3) (by rw [Int.toNat_natCast])) ?_
    refine WO.v 30 rfl rfl (r_fieldAddr rfl rfl Try.underlying57 rfl Try.sizeOf3 (q := 0 + i * 3 + 2) rfl) ?_
    refine WO.scell (j := i) (r := 2) (x1 := (⟨kk, kk + 1, kk + 2⟩ : S57)) rfl rfl rfl rfl rfl rfl Try.sizeOf3 H2 p0 hat2 (by show 0 + i * 3 + 2 = i * 3 + 2; omega) (by decide) (fun _ _ _ h => set57_2 h) ?_
    intro wS2 HS2
    have H3 : St w S [Rw o57 57 (.slice (some ⟨g, 0, none⟩) (ys.set i (⟨kk, kk + 1, kk + 2⟩ : S57)).length c) (ys.set i (⟨kk, kk + 1, kk + 2⟩ : S57))] wS2 := by rw [List.length_set]; rw [List.set_set, List.length_set] at HS2; exact HS2
    have hat3 : (ys.set i (⟨kk, kk + 1, kk + 2⟩ : S57))[i]? = some ⟨kk, kk + 1, kk + 2⟩ := by rw [List.getElem?_set_self hyi]
    refine WO.done (Run.regionL [0, 1, 2] rfl ?_)
    refine WO.v 31 rfl rfl (r_moveI rfl rfl) ?_
    refine WO.v 32 rfl rfl (r_add rfl rfl rfl (c := kk + 3) ((wrap_in (by omega) (by omega)).trans (by omega))) ?_
    refine WO.v 1 rfl rfl (r_assignI rfl rfl) ?_
    refine WO.done (Run.blockEnd (Run.regionL [0, 1, 2] rfl ?_))
    refine WO.v 10 rfl rfl (r_moveI rfl h5) ?_
    refine WO.v 11 rfl rfl (r_add rfl rfl rfl (c := (i : Int) + 1) (wrap_in (by omega) (by omega))) ?_
    refine WO.v 5 rfl rfl (r_assignI rfl rfl) ?_
    exact WO.done (ih (m - 1) _ _ (by omega) ⟨i + 1, _, kk + 3, by omega, hstep, by omega, by rw [List.length_set]; exact h0, rfl, rfl, H3⟩)
  · have hye : ys = mkL mkT cnT xs k := by rw [hys]; exact mkL_end _ _ xs k i (by omega)
    rw [List.take_of_length_le (show xs.length ≤ i by omega)] at hkk
    subst hkk
    rw [hyl, hye] at H
    refine Run.exit rfl (Run.seq (Run.regionL [0, 1] rfl ?_))
    refine WO.v 33 rfl rfl (r_moveI rfl h1) ?_
    refine WO.v 4 rfl rfl (r_assignI rfl rfl) ?_
    exact WO.done (Run.ret1 Try.func77 Try.results77 rfl ⟨_, ⟨rfl, rfl⟩, H⟩)
theorem markTimerSS_tri (A : Option Addr) (c : Nat) (xs : List (List S57)) (k : Int) (w : World) (h0k : 0 ≤ k) (hk : k + sumOf (sumOf cnT) xs ≤ 4611686018427387904) :
    Tri Try.prog 67 #[.slice A xs.length c, .int .i64 k] w [Rw o55 55 (.slice A xs.length c) xs] fun e LQ => e = .returned (.int .i64 (k + sumOf (sumOf cnT) xs)) ∧ LQ = [Rw o55 55 (.slice A xs.length c) (mkL (mkL mkT cnT) (sumOf cnT) xs k)] := by
  refine tri_of_run (fn := Try.f67) (n := 19) Try.func67 rfl Try.ntmps67 (Nat.le_of_ble_eq_true rfl) fun S H => ?_
  have hbig : xs.length ≤ 9223372036854775807 := (H.rd p0).2.2.2.1
  refine Run.seq (Run.regionL [0] rfl ?_)
  refine WO.v 4 rfl rfl (r_assignI rfl rfl) ?_
  refine WO.done (Run.seq (Run.seq (Run.regionL [0] rfl ?_)))
  refine WO.v 5 rfl rfl (r_assignI rfl rfl) ?_
  refine WO.done (Run.block ?_)
  refine Run.loopInv (fun m τ wr => ∃ (i : Nat) (ys : List (List S57)) (kk : Int), i + m = xs.length ∧ ys = mkL (mkL mkT cnT) (sumOf cnT) (xs.take i) k ++ xs.drop i ∧ kk = k + sumOf (sumOf cnT) (xs.take i) ∧ τ 0 = .slice A ys.length c ∧ τ 1 = .int .i64 kk ∧ τ 5 = .int .i64 i ∧ St w S [Rw o55 55 (.slice A ys.length c) ys] wr) xs.length ⟨0, xs, k, by omega, by simp [mkL], by simp [sumOf], rfl, rfl, rfl, H⟩ ?_
  clear H
  rintro m τ wr ih ⟨i, ys, kk, hm, hys, hkk, h0, h1, h5, H⟩
  have hyl : ys.length = xs.length := by rw [hys]; exact mkL_mid _ _ xs k i
  have hle := sum_take_le (sumOf cnT) xs i
  refine Run.seq (Run.seq (Run.regionL [0, 1, 2, 3] rfl ?_))
  refine WO.v 6 rfl rfl (r_moveI rfl h5) ?_
  refine WO.v 7 rfl rfl (r_moveL rfl h0) ?_
  refine WO.v 8 rfl rfl (r_len (e := 55) rfl rfl Try.underlying54) ?_
  refine WO.v 9 rfl rfl (r_lss rfl rfl rfl rfl) ?_
  refine WO.done (Run.test rfl (fun hq => ?_) (fun hq => ?_))
  · have hi : i < xs.length := by omega
    have hst := sum_take (sumOf cnT) xs [] i hi
    have hle2 := sum_take_le (sumOf cnT) xs (i + 1)
    have hat : ys[i]? = some (xs.getD i []) := by rw [hys]; exact mkL_at _ _ [] xs k i hi
    have hstep : ys.set i ((mkL mkT cnT) (xs.getD i []) kk) = mkL (mkL mkT cnT) (sumOf cnT) (xs.take (i + 1)) k ++ xs.drop (i + 1) := by rw [hys, hkk]; exact mkL_step _ _ [] xs k i hi
    obtain ⟨A1, c1, H1⟩ := H.takeR p0 i hat
    obtain ⟨_, _, g, rfl, hcell⟩ := H1.hole p1
    refine Run.skip (Run.seq (Run.block (Run.regionL [0, 1, 2, 3, 4, 5, 6] rfl ?_)))
    refine WO.v 12 rfl rfl (r_moveL rfl h0) ?_
    refine WO.v 13 rfl rfl (r_moveI rfl h5) ?_
    refine WO.v 14 rfl rfl (r_indexAddr rfl rfl rfl Try.underlying54 Try.sizeOf55 (by omega) (by omega) (q := 0 + i * 1) (by rw [Int.toNat_natCast])) ?_
    refine WO.v 15 rfl rfl (r_load (v := .slice A1 (xs.getD i []).length c1) rfl rfl Try.isAgg55 (by rw [Nat.zero_add]; exact hcell 0 _ rfl)) ?_
    refine WO.v 16 rfl rfl (r_moveI rfl h1) ?_
    refine WO.scall 17 rfl rfl Try.call77 H1 (.c q0 .n) (markTimerS_tri A1 c1 (xs.getD i []) kk wr (by omega) (by have : (sumOf cnT) (xs.getD i []) = sumOf cnT (xs.getD i []) := rfl; omega)) rfl rfl ?_
    rintro e LQ w2 ⟨rfl, rfl⟩ H2
    refine ⟨_, rfl, ?_⟩
    have H3 := St.backR H2 p0
    refine WO.v 1 rfl rfl (r_assignI rfl rfl) ?_
    refine WO.done (Run.blockEnd (Run.regionL [0, 1, 2] rfl ?_))
    refine WO.v 10 rfl rfl (r_moveI rfl h5) ?_
    refine WO.v 11 rfl rfl (r_add rfl rfl rfl (c := (i : Int) + 1) (wrap_in (by omega) (by omega))) ?_
    refine WO.v 5 rfl rfl (r_assignI rfl rfl) ?_
    exact WO.done (ih (m - 1) _ _ (by omega) ⟨i + 1, _, kk + sumOf cnT (xs.getD i []), by omega, hstep, by have : (sumOf cnT) (xs.getD i []) = sumOf cnT (xs.getD i []) := rfl; omega, by rw [List.length_set]; exact h0, rfl, rfl, by rw [List.length_set]; exact H3⟩)
  · have hye : ys = mkL (mkL mkT cnT) (sumOf cnT) xs k := by rw [hys]; exact mkL_end _ _ xs k i (by omega)
    rw [List.take_of_length_le (show xs.length ≤ i by omega)] at hkk
    subst hkk
    rw [hyl, hye] at H
    refine Run.exit rfl (Run.seq (Run.regionL [0, 1] rfl ?_))
    refine WO.v 18 rfl rfl (r_moveI rfl h1) ?_
    refine WO.v 4 rfl rfl (r_assignI rfl rfl) ?_
    exact WO.done (Run.ret1 Try.func67 Try.results67 rfl ⟨_, ⟨rfl, rfl⟩, H⟩)
theorem markTimerSSS_tri (A : Option Addr) (c : Nat) (xs : List (List (List S57))) (k : Int) (w : World) (h0k : 0 ≤ k) (hk : k + sumOf (sumOf (sumOf cnT)) xs ≤ 4611686018427387904) :
    Tri Try.prog 53 #[.slice A xs.length c, .int .i64 k] w [Rw o54 54 (.slice A xs.length c) xs] fun e LQ => e = .returned (.int .i64 (k + sumOf (sumOf (sumOf cnT)) xs)) ∧ LQ = [Rw o54 54 (.slice A xs.length c) (mkL (mkL (mkL mkT cnT) (sumOf cnT)) (sumOf (sumOf cnT)) xs k)] := by
  refine tri_of_run (fn := Try.f53) (n := 19) Try.func53 rfl Try.ntmps53 (Nat.le_of_ble_eq_true rfl) fun S H => ?_
  have hbig : xs.length ≤ 9223372036854775807 := (H.rd p0).2.2.2.1
  refine Run.seq (Run.regionL [0] rfl ?_)
  refine WO.v 4 rfl rfl (r_assignI rfl rfl) ?_
  refine WO.done (Run.seq (Run.seq (Run.regionL [0] rfl ?_)))
  refine WO.v 5 rfl rfl (r_assignI rfl rfl) ?_
  refine WO.done (Run.block ?_)
  refine Run.loopInv (fun m τ wr => ∃ (i : Nat) (ys : List (List (List S57))) (kk : Int), i + m = xs.length ∧ ys = mkL (mkL (mkL mkT cnT) (sumOf cnT)) (sumOf (sumOf cnT)) (xs.take i) k ++ xs.drop i ∧ kk = k + sumOf (sumOf (sumOf cnT)) (xs.take i) ∧ τ 0 = .slice A ys.length c ∧ τ 1 = .int .i64 kk ∧ τ 5 = .int .i64 i ∧ St w S [Rw o54 54 (.slice A ys.length c) ys] wr) xs.length ⟨0, xs, k, by omega, by simp [mkL], by simp [sumOf], rfl, rfl, rfl, H⟩ ?_
  clear H
  rintro m τ wr ih ⟨i, ys, kk, hm, hys, hkk, h0, h1, h5, H⟩
  have hyl : ys.length = xs.length := by rw [hys]; exact mkL_mid _ _ xs k i
  have hle := sum_take_le (sumOf (sumOf cnT)) xs i
  refine Run.seq (Run.seq (Run.regionL [0, 1, 2, 3] rfl ?_))
  refine WO.v 6 rfl rfl (r_moveI rfl h5) ?_
  refine WO.v 7 rfl rfl (r_moveL rfl h0) ?_
  refine WO.v 8 rfl rfl (r_len (e := 54) rfl rfl Try.underlying27) ?_
  refine WO.v 9 rfl rfl (r_lss rfl rfl rfl rfl) ?_
  refine WO.done (Run.test rfl (fun hq => ?_) (fun hq => ?_))
  · have hi : i < xs.length := by omega
    have hst := sum_take (sumOf (sumOf cnT)) xs [] i hi
    have hle2 := sum_take_le (sumOf (sumOf cnT)) xs (i + 1)
    have hat : ys[i]? = some (xs.getD i []) := by rw [hys]; exact mkL_at _ _ [] xs k i hi
    have hstep : ys.set i ((mkL (mkL mkT cnT) (sumOf cnT)) (xs.getD i []) kk) = mkL (mkL (mkL mkT cnT) (sumOf cnT)) (sumOf (sumOf cnT)) (xs.take (i + 1)) k ++ xs.drop (i + 1) := by rw [hys, hkk]; exact mkL_step _ _ [] xs k i hi
    obtain ⟨A1, c1, H1⟩ := H.takeR p0 i hat
    obtain ⟨_, _, g, rfl, hcell⟩ := H1.hole p1
    refine Run.skip (Run.seq (Run.block (Run.regionL [0, 1, 2, 3, 4, 5, 6] rfl ?_)))
    refine WO.v 12 rfl rfl (r_moveL rfl h0) ?_
    refine WO.v 13 rfl rfl (r_moveI rfl h5) ?_
    refine WO.v 14 rfl rfl (r_indexAddr rfl rfl rfl Try.underlying27 Try.sizeOf54 (by omega) (by omega) (q := 0 + i * 1) (by rw [Int.toNat_natCast])) ?_
    refine WO.v 15 rfl rfl (r_load (v := .slice A1 (xs.getD i []).length c1) rfl rfl Try.isAgg54 (by rw [Nat.zero_add]; exact hcell 0 _ rfl)) ?_
    refine WO.v 16 rfl rfl (r_moveI rfl h1) ?_
    refine WO.scall 17 rfl rfl Try.call67 H1 (.c q0 .n) (markTimerSS_tri A1 c1 (xs.getD i []) kk wr (by omega) (by have : (sumOf (sumOf cnT)) (xs.getD i []) = sumOf (sumOf cnT) (xs.getD i []) := rfl; omega)) rfl rfl ?_
    rintro e LQ w2 ⟨rfl, rfl⟩ H2
    refine ⟨_, rfl, ?_⟩
    have H3 := St.backR H2 p0
    refine WO.v 1 rfl rfl (r_assignI rfl rfl) ?_
    refine WO.done (Run.blockEnd (Run.regionL [0, 1, 2] rfl ?_))
    refine WO.v 10 rfl rfl (r_moveI rfl h5) ?_
    refine WO.v 11 rfl rfl (r_add rfl rfl rfl (c := (i : Int) + 1) (wrap_in (by omega) (by omega))) ?_
    refine WO.v 5 rfl rfl (r_assignI rfl rfl) ?_
    exact WO.done (ih (m - 1) _ _ (by omega) ⟨i + 1, _, kk + sumOf (sumOf cnT) (xs.getD i []), by omega, hstep, by have : (sumOf (sumOf cnT)) (xs.getD i []) = sumOf (sumOf cnT) (xs.getD i []) := rfl; omega, by rw [List.length_set]; exact h0, rfl, rfl, by rw [List.length_set]; exact H3⟩)
  · have hye : ys = mkL (mkL (mkL mkT cnT) (sumOf cnT)) (sumOf (sumOf cnT)) xs k := by rw [hys]; exact mkL_end _ _ xs k i (by omega)
    rw [List.take_of_length_le (show xs.length ≤ i by omega)] at hkk
    subst hkk
    rw [hyl, hye] at H
    refine Run.exit rfl (Run.seq (Run.regionL [0, 1] rfl ?_))
    refine WO.v 18 rfl rfl (r_moveI rfl h1) ?_
    refine WO.v 4 rfl rfl (r_assignI rfl rfl) ?_
    exact WO.done (Run.ret1 Try.func53 Try.results53 rfl ⟨_, ⟨rfl, rfl⟩, H⟩)
theorem heldTimerS_calls (A : Option Addr) (c : Nat) (xs : List S57) (k : Int) (w : World) (h0k : 0 ≤ k) (hk : k + sumOf cnT xs ≤ 4611686018427387904) (hr : Kd.C k57 w A xs.length (mkL mkT cnT xs k)) :
    Calls Try.prog 78 #[.slice A xs.length c, .int .i64 k] w fun e w' => e = .returned (.int .i64 (k + sumOf cnT xs)) ∧ Below w.heap.size w w' := by
  have hbig : xs.length ≤ 9223372036854775807 := hr.2.1
  refine calls_of_run (fn := Try.f78) (n := 40) Try.func78 rfl Try.ntmps78 (Nat.le_of_ble_eq_true rfl) ?_
  refine Run.seq (Run.regionL [0] rfl ?_)
  refine WO.v 4 rfl rfl (r_assignI rfl rfl) ?_
  refine WO.done (Run.seq (Run.seq (Run.regionL [0] rfl ?_)))
  refine WO.v 5 rfl rfl (r_assignI rfl rfl) ?_
  refine WO.done (Run.block ?_)
  refine Run.loopInv (fun m τ wr => ∃ (i : Nat) (kk : Int), i + m = xs.length ∧ kk = k + sumOf cnT (xs.take i) ∧ τ 0 = .slice A xs.length c ∧ τ 1 = .int .i64 kk ∧ τ 5 = .int .i64 i ∧ Below w.heap.size w wr) xs.length ⟨0, k, by omega, by simp [sumOf], rfl, rfl, rfl, Below.refl _ _⟩ ?_
  rintro m τ wr ih ⟨i, kk, hm, hkk, h0, h1, h5, hb⟩
  have hle := sum_take_le cnT xs i
  refine Run.seq (Run.seq (Run.regionL [0, 1, 2, 3] rfl ?_))
  refine WO.v 6 rfl rfl (r_moveI rfl h5) ?_
  refine WO.v 7 rfl rfl (r_moveL rfl h0) ?_
  refine WO.v 8 rfl rfl (r_len (e := 57) rfl rfl Try.underlying55) ?_
  refine WO.v 9 rfl rfl (r_lss rfl rfl rfl rfl) ?_
  refine WO.done (Run.test rfl (fun hq => ?_) (fun hq => ?_))
  · have hi : i < xs.length := by omega
    have hst := sum_take cnT xs z57 i hi
    rw [cnT_eq] at hst
    have hle2 := sum_take_le cnT xs (i + 1)
    obtain ⟨b, off, cs, rfl, hbl, hcl, hkd, hc⟩ := row_at (Kd.C_below hr hb) z57 i hi (Nat.succ_pos _)
    rw [mkL_getD _ _ z57 xs k i hi, ← hkk] at hkd
    obtain rfl := k57_open hkd
    have hcell : ∀ j u, [.int .i64 kk, .int .i64 (kk + 1), .int .i64 (kk + 2)][j]? = some u → wr.cell? ⟨b, off + i * 3 + j, none⟩ = some u := fun j u hj => by have := hc j u hj; rwa [add_gg] at this
    refine Run.skip (Run.seq (Run.block (Run.seq (Run.seq (Run.regionL [0, 1, 2, 3, 4, 5, 6] rfl ?_)))))
    refine WO.v 12 rfl rfl (r_moveL rfl h0) ?_
    refine WO.v 13 rfl rfl (r_moveI rfl h5) ?_
    refine WO.v 14 rfl rfl (r_indexAddr rfl rfl rfl Try.underlying55 Try.sizeOf57 (by omega) hq (q := off + i * 3) (by rw [Int.toNat_natCast])) ?_
    refine WO.v 15 rfl rfl (r_fieldAddr rfl rfl Try.underlying57 rfl Try.sizeOf3 (q := off + i * 3 + 0) rfl) ?_
    refine WO.v 16 rfl rfl (r_load (v := .int .i64 (kk)) rfl rfl Try.isAgg3 (hcell 0 _ rfl)) ?_
    refine WO.v 17 rfl rfl (r_moveI rfl h1) ?_
    refine WO.v 18 rfl rfl (r_neq rfl rfl rfl (decide_eq_false (fun h => h rfl))) ?_
    refine WO.done (Run.condF rfl (Run.skip (Run.seq (Run.regionL [0, 1, 2] rfl ?_))))
    refine WO.v 19 rfl rfl (r_moveI rfl h1) ?_
    refine WO.v 20 rfl rfl (r_add rfl rfl rfl (c := kk + 1) ((wrap_in (by omega) (by omega)).trans (by omega))) ?_
    refine WO.v 1 rfl rfl (r_assignI rfl rfl) ?_
    refine WO.done (Run.seq (Run.seq (Run.regionL [0, 1, 2, 3, 4, 5, 6] rfl ?_)))
    refine WO.v 21 rfl rfl (r_moveL rfl h0) ?_
    refine WO.v 22 rfl rfl (r_moveI rfl h5) ?_
    refine WO.v 23 rfl rfl (r_indexAddr rfl rfl rfl Try.underlying55 Try.sizeOf57 (by omega) hq (q := off + i * 3) (by rw [Int.toNat_natCast])) ?_
    refine WO.v 24 rfl rfl (r_fieldAddr rfl rfl Try.underlying57 rfl Try.sizeOf3 (q := off + i * 3 + 1) rfl) ?_
    refine WO.v 25 rfl rfl (r_load (v := .int .i64 (kk + 1)) rfl rfl Try.isAgg3 (hcell 1 _ rfl)) ?_
    refine WO.v 26 rfl rfl (r_moveI rfl rfl) ?_
    refine WO.v 27 rfl rfl (r_neq rfl rfl rfl (decide_eq_false (fun h => h rfl))) ?_
    refine WO.done (Run.condF rfl (Run.skip (Run.seq (Run.regionL [0, 1, 2] rfl ?_))))
    refine WO.v 28 rfl rfl (r_moveI rfl rfl) ?_
    refine WO.v 29 rfl rfl (r_add rfl rfl rfl (c := kk + 2) ((wrap_in (by omega) (by omega)).trans (by omega))) ?_
    refine WO.v 1 rfl rfl (r_assignI rfl rfl) ?_
    refine WO.done (Run.seq (Run.seq (Run.regionL [0, 1, 2, 3, 4, 5, 6] rfl ?_)))
    refine WO.v 30 rfl rfl (r_moveL rfl h0) ?_
    refine WO.v 31 rfl rfl (r_moveI rfl h5) ?_
    refine WO.v 32 rfl rfl (r_indexAddr rfl rfl rfl Try.underlying55 Try.sizeOf57 (by omega) hq (q := off + i * 3) (by rw [Int.toNat_natCast])) ?_
    refine WO.v 33 rfl rfl (r_fieldAddr rfl rfl Try.underlying57 rfl Try.sizeOf3 (q := off + i * 3 + 2) rfl) ?_
    refine WO.v 34 rfl rfl (r_load (v := .int .i64 (kk + 2)) rfl rfl Try.isAgg3 (hcell 2 _ rfl)) ?_
    refine WO.v 35 rfl rfl (r_moveI rfl rfl) ?_
    refine WO.v 36 rfl rfl (r_neq rfl rfl rfl (decide_eq_false (fun h => h rfl))) ?_
    refine WO.done (Run.condF rfl (Run.skip (Run.regionL [0, 1, 2] rfl ?_)))
    refine WO.v 37 rfl rfl (r_moveI rfl rfl) ?_
    refine WO.v 38 rfl rfl (r_add rfl rfl rfl (c := kk + 3) ((wrap_in (by omega) (by omega)).trans (by omega))) ?_
    refine WO.v 1 rfl rfl (r_assignI rfl rfl) ?_
    refine WO.done (Run.blockEnd (Run.regionL [0, 1, 2] rfl ?_))
    refine WO.v 10 rfl rfl (r_moveI rfl h5) ?_
    refine WO.v 11 rfl rfl (r_add rfl rfl rfl (c := (i : Int) + 1) (wrap_in (by omega) (by omega))) ?_
    refine WO.v 5 rfl rfl (r_assignI rfl rfl) ?_
    exact WO.done (ih (m - 1) _ _ (by omega) ⟨i + 1, kk + 3, by omega, by omega, h0, rfl, rfl, hb⟩)
  · rw [List.take_of_length_le (show xs.length ≤ i by omega)] at hkk
    subst hkk
    refine Run.exit rfl (Run.seq (Run.regionL [0, 1] rfl ?_))
    refine WO.v 39 rfl rfl (r_moveI rfl h1) ?_
    refine WO.v 4 rfl rfl (r_assignI rfl rfl) ?_
    exact WO.done (Run.ret1 Try.func78 Try.results78 rfl ⟨rfl, hb⟩)
theorem heldTimerSS_calls (A : Option Addr) (c : Nat) (xs : List (List S57)) (k : Int) (w : World) (h0k : 0 ≤ k) (hk : k + sumOf (sumOf cnT) xs ≤ 4611686018427387904) (hr : Kd.C (Kd.slice 57 k57) w A xs.length (mkL (mkL mkT cnT) (sumOf cnT) xs k)) :
    Calls Try.prog 68 #[.slice A xs.length c, .int .i64 k] w fun e w' => e = .returned (.int .i64 (k + sumOf (sumOf cnT) xs)) ∧ Below w.heap.size w w' := by
  have hbig : xs.length ≤ 9223372036854775807 := hr.2.1
  refine calls_of_run (fn := Try.f68) (n := 21) Try.func68 rfl Try.ntmps68 (Nat.le_of_ble_eq_true rfl) ?_
  refine Run.seq (Run.regionL [0] rfl ?_)
  refine WO.v 4 rfl rfl (r_assignI rfl rfl) ?_
  refine WO.done (Run.seq (Run.seq (Run.regionL [0] rfl ?_)))
  refine WO.v 5 rfl rfl (r_assignI rfl rfl) ?_
  refine WO.done (Run.block ?_)
  refine Run.loopInv (fun m τ wr => ∃ (i : Nat) (kk : Int), i + m = xs.length ∧ kk = k + sumOf (sumOf cnT) (xs.take i) ∧ τ 0 = .slice A xs.length c ∧ τ 1 = .int .i64 kk ∧ τ 5 = .int .i64 i ∧ Below w.heap.size w wr) xs.length ⟨0, k, by omega, by simp [sumOf], rfl, rfl, rfl, Below.refl _ _⟩ ?_
  rintro m τ wr ih ⟨i, kk, hm, hkk, h0, h1, h5, hb⟩
  have hle := sum_take_le (sumOf cnT) xs i
  refine Run.seq (Run.seq (Run.regionL [0, 1, 2, 3] rfl ?_))
  refine WO.v 6 rfl rfl (r_moveI rfl h5) ?_
  refine WO.v 7 rfl rfl (r_moveL rfl h0) ?_
  refine WO.v 8 rfl rfl (r_len (e := 55) rfl rfl Try.underlying54) ?_
  refine WO.v 9 rfl rfl (r_lss rfl rfl rfl rfl) ?_
  refine WO.done (Run.test rfl (fun hq => ?_) (fun hq => ?_))
  · have hi : i < xs.length := by omega
    have hst := sum_take (sumOf cnT) xs [] i hi
    have hle2 := sum_take_le (sumOf cnT) xs (i + 1)
    have hcn : (sumOf cnT) (xs.getD i []) = sumOf cnT (xs.getD i []) := rfl
    obtain ⟨b, off, cs, rfl, hbl, hcl, hkd, hc⟩ := row_at (Kd.C_below hr hb) [] i hi (Nat.succ_pos _)
    rw [mkL_getD _ _ [] xs k i hi, ← hkk] at hkd
    obtain ⟨Ai, ci, rfl, hci, hri⟩ := hkd
    rw [mkL_length] at hri hc
    refine Run.skip (Run.seq (Run.block (Run.seq (Run.regionL [0, 1, 2, 3, 4, 5, 6] rfl ?_))))
    refine WO.v 12 rfl rfl (r_moveL rfl h0) ?_
    refine WO.v 13 rfl rfl (r_moveI rfl h5) ?_
    refine WO.v 14 rfl rfl (r_indexAddr rfl rfl rfl Try.underlying54 Try.sizeOf55 (by omega) hq (q := off + i * 1) (by rw [Int.toNat_natCast])) ?_
    refine WO.v 15 rfl rfl (r_load rfl rfl Try.isAgg55 (hc 0 _ rfl)) ?_
    refine WO.v 16 rfl rfl (r_moveI rfl h1) ?_
    refine WO.call_ 17 rfl rfl Try.call78 (heldTimerS_calls Ai ci (xs.getD i []) kk wr (by omega) (by omega) hri) rfl rfl ?_
    rintro e w2 ⟨rfl, hb2⟩
    refine ⟨_, rfl, ?_⟩
    refine WO.v 1 rfl rfl (r_assignI rfl rfl) ?_
    refine WO.done (Run.seq (Run.regionL [0, 1] rfl ?_))
    refine WO.v 18 rfl rfl (r_moveI rfl rfl) ?_
    refine WO.v 19 rfl rfl (r_lss rfl rfl rfl (decide_eq_false (by omega))) ?_
    refine WO.done (Run.condF rfl (Run.skip (Run.blockEnd (Run.regionL [0, 1, 2] rfl ?_))))
    refine WO.v 10 rfl rfl (r_moveI rfl h5) ?_
    refine WO.v 11 rfl rfl (r_add rfl rfl rfl (c := (i : Int) + 1) (wrap_in (by omega) (by omega))) ?_
    refine WO.v 5 rfl rfl (r_assignI rfl rfl) ?_
    exact WO.done (ih (m - 1) _ _ (by omega) ⟨i + 1, kk + sumOf cnT (xs.getD i []), by omega, by omega, h0, rfl, rfl, hb.trans (hb2.mono hb.size)⟩)
  · rw [List.take_of_length_le (show xs.length ≤ i by omega)] at hkk
    subst hkk
    refine Run.exit rfl (Run.seq (Run.regionL [0, 1] rfl ?_))
    refine WO.v 20 rfl rfl (r_moveI rfl h1) ?_
    refine WO.v 4 rfl rfl (r_assignI rfl rfl) ?_
    exact WO.done (Run.ret1 Try.func68 Try.results68 rfl ⟨rfl, hb⟩)
theorem heldTimerSSS_calls (A : Option Addr) (c : Nat) (xs : List (List (List S57))) (k : Int) (w : World) (h0k : 0 ≤ k) (hk : k + sumOf (sumOf (sumOf cnT)) xs ≤ 4611686018427387904) (hr : Kd.C (Kd.slice 55 (Kd.slice 57 k57)) w A xs.length (mkL (mkL (mkL mkT cnT) (sumOf cnT)) (sumOf (sumOf cnT)) xs k)) :
    Calls Try.prog 54 #[.slice A xs.length c, .int .i64 k] w fun e w' => e = .returned (.int .i64 (k + sumOf (sumOf (sumOf cnT)) xs)) ∧ Below w.heap.size w w' := by
  have hbig : xs.length ≤ 9223372036854775807 := hr.2.1
  refine calls_of_run (fn := Try.f54) (n := 21) Try.func54 rfl Try.ntmps54 (Nat.le_of_ble_eq_true rfl) ?_
  refine Run.seq (Run.regionL [0] rfl ?_)
  refine WO.v 4 rfl rfl (r_assignI rfl rfl) ?_
  refine WO.done (Run.seq (Run.seq (Run.regionL [0] rfl ?_)))
  refine WO.v 5 rfl rfl (r_assignI rfl rfl) ?_
  refine WO.done (Run.block ?_)
  refine Run.loopInv (fun m τ wr => ∃ (i : Nat) (kk : Int), i + m = xs.length ∧ kk = k + sumOf (sumOf (sumOf cnT)) (xs.take i) ∧ τ 0 = .slice A xs.length c ∧ τ 1 = .int .i64 kk ∧ τ 5 = .int .i64 i ∧ Below w.heap.size w wr) xs.length ⟨0, k, by omega, by simp [sumOf], rfl, rfl, rfl, Below.refl _ _⟩ ?_
  rintro m τ wr ih ⟨i, kk, hm, hkk, h0, h1, h5, hb⟩
  have hle := sum_take_le (sumOf (sumOf cnT)) xs i
  refine Run.seq (Run.seq (Run.regionL [0, 1, 2, 3] rfl ?_))
  refine WO.v 6 rfl rfl (r_moveI rfl h5) ?_
  refine WO.v 7 rfl rfl (r_moveL rfl h0) ?_
  refine WO.v 8 rfl rfl (r_len (e := 54) rfl rfl Try.underlying27) ?_
  refine WO.v 9 rfl rfl (r_lss rfl rfl rfl rfl) ?_
  refine WO.done (Run.test rfl (fun hq => ?_) (fun hq => ?_))
  · have hi : i < xs.length := by omega
    have hst := sum_take (sumOf (sumOf cnT)) xs [] i hi
    have hle2 := sum_take_le (sumOf (sumOf cnT)) xs (i + 1)
    have hcn : (sumOf (sumOf cnT)) (xs.getD i []) = sumOf (sumOf cnT) (xs.getD i []) := rfl
    obtain ⟨b, off, cs, rfl, hbl, hcl, hkd, hc⟩ := row_at (Kd.C_below hr hb) [] i hi (Nat.succ_pos _)
    rw [mkL_getD _ _ [] xs k i hi, ← hkk] at hkd
    obtain ⟨Ai, ci, rfl, hci, hri⟩ := hkd
    rw [mkL_length] at hri hc
    refine Run.skip (Run.seq (Run.block (Run.seq (Run.regionL [0, 1, 2, 3, 4, 5, 6] rfl ?_))))
    refine WO.v 12 rfl rfl (r_moveL rfl h0) ?_
    refine WO.v 13 rfl rfl (r_moveI rfl h5) ?_
    refine WO.v 14 rfl rfl (r_indexAddr rfl rfl rfl Try.underlying27 Try.sizeOf54 (by omega) hq (q := off + i * 1) (by rw [Int.toNat_natCast])) ?_
    refine WO.v 15 rfl rfl (r_load rfl rfl Try.isAgg54 (hc 0 _ rfl)) ?_
    refine WO.v 16 rfl rfl (r_moveI rfl h1) ?_
    refine WO.call_ 17 rfl rfl Try.call68 (heldTimerSS_calls Ai ci (xs.getD i []) kk wr (by omega) (by omega) hri) rfl rfl ?_
    rintro e w2 ⟨rfl, hb2⟩
    refine ⟨_, rfl, ?_⟩
    refine WO.v 1 rfl rfl (r_assignI rfl rfl) ?_
    refine WO.done (Run.seq (Run.regionL [0, 1] rfl ?_))
    refine WO.v 18 rfl rfl (r_moveI rfl rfl) ?_
    refine WO.v 19 rfl rfl (r_lss rfl rfl rfl (decide_eq_false (by omega))) ?_
    refine WO.done (Run.condF rfl (Run.skip (Run.blockEnd (Run.regionL [0, 1, 2] rfl ?_))))
    refine WO.v 10 rfl rfl (r_moveI rfl h5) ?_
    refine WO.v 11 rfl rfl (r_add rfl rfl rfl (c := (i : Int) + 1) (wrap_in (by omega) (by omega))) ?_
    refine WO.v 5 rfl rfl (r_assignI rfl rfl) ?_
    exact WO.done (ih (m - 1) _ _ (by omega) ⟨i + 1, kk + sumOf (sumOf cnT) (xs.getD i []), by omega, by omega, h0, rfl, rfl, hb.trans (hb2.mono hb.size)⟩)
  · rw [List.take_of_length_le (show xs.length ≤ i by omega)] at hkk
    subst hkk
    refine Run.exit rfl (Run.seq (Run.regionL [0, 1] rfl ?_))
    refine WO.v 20 rfl rfl (r_moveI rfl h1) ?_
    refine WO.v 4 rfl rfl (r_assignI rfl rfl) ?_
    exact WO.done (Run.ret1 Try.func54 Try.results54 rfl ⟨rfl, hb⟩)
end Go.Proofs.Ytojpimpfpjhflaa.Wh
namespace Go.Proofs.Ytojpimpfpjhflaa.Wh
open Go.RowKit Go.Proofs.Ytojpimpfpjhflaa.Fw Go.Proofs.YtojpimpfpjhflaaW.PrintWords Go.Proofs.Ytojpimpfpjhflaa.PFnExactWheelOK
set_option linter.unusedVariables false
set_option linter.unusedSimpArgs false
theorem set_rep {α : Type} (i n : Nat) (h : i < n) (a b : α) : (List.replicate i a ++ List.replicate (n - i) b).set i a = List.replicate (i + 1) a ++ List.replicate (n - (i + 1)) b := by
  rw [List.set_append_right _ _ (by simp), List.length_replicate, Nat.sub_self, show n - i = (n - (i + 1)) + 1 by omega, List.replicate_succ, List.set_cons_zero, List.replicate_succ' (n := i), List.append_assoc]
  rfl
def slotF (now : Int) (ts : List S57) (l s : Nat) : List S57 := ts.filter fun x => decide (placeP x.f1 now = ((l : Int), (s : Int)))
def deal (now : Int) (ts : List S57) : List (List (List S57)) := (List.range 3).map fun l => (List.range 8).map fun s => slotF now ts l s
theorem deal_len (now : Int) (ts : List S57) : (deal now ts).length = 3 := by simp [deal]
theorem deal_get (now : Int) (ts : List S57) {l : Nat} (hl : l < 3) : (deal now ts)[l]? = some ((List.range 8).map fun s => slotF now ts l s) := by
  simp [deal, List.getElem?_map, List.getElem?_range hl]
theorem level_len (now : Int) (ts : List S57) (l : Nat) : ((List.range 8).map fun s => slotF now ts l s).length = 8 := by simp
theorem level_get (now : Int) (ts : List S57) (l : Nat) {s : Nat} (hs : s < 8) : ((List.range 8).map fun s => slotF now ts l s)[s]? = some (slotF now ts l s) := by
  simp [List.getElem?_map, List.getElem?_range hs]
theorem deal_nil (now : Int) : deal now [] = List.replicate 3 (List.replicate 8 []) := by rfl
theorem slotF_le (now : Int) (ts : List S57) (l s : Nat) : (slotF now ts l s).length ≤ ts.length := List.length_filter_le _ _
theorem deal_snoc (now : Int) (ts : List S57) (x : S57) {l s : Nat} (hl : l < 3) (hs : s < 8) (hp : placeP x.f1 now = ((l : Int), (s : Int))) :
    deal now (ts ++ [x]) = (deal now ts).set l (((List.range 8).map fun s => slotF now ts l s).set s (slotF now ts l s ++ [x])) := by
  have h : ∀ l' s' : Nat, slotF now (ts ++ [x]) l' s' = if l' = l ∧ s' = s then slotF now ts l s ++ [x] else slotF now ts l' s' := by
    intro l' s'
    unfold slotF
    rw [List.filter_append]
    split
    · rename_i h; obtain ⟨rfl, rfl⟩ := h
      simp [hp]
    · rename_i h
      rw [List.filter_cons, if_neg, List.filter_nil, List.append_nil]
      rw [hp, decide_eq_true_iff, Prod.mk.injEq]
      omega
  refine List.ext_getElem? fun i => ?_
  rw [List.getElem?_set]
  by_cases hi : i < 3
  · rw [deal_get _ _ hi]
    split
    · subst_vars
      rw [if_pos (by rw [deal_len]; exact hi)]
      refine congrArg some (List.ext_getElem? fun j => ?_)
      rw [List.getElem?_set]
      by_cases hj : j < 8
      · rw [level_get _ _ _ hj, h]
        by_cases e : s = j
        · subst e
          rw [if_pos ⟨rfl, rfl⟩, if_pos rfl, if_pos (by simpa using hj)]
        · rw [if_neg (by omega), if_neg e, level_get _ _ _ hj]
      · rw [List.getElem?_eq_none (by simpa using hj)]
        split
        · subst_vars; omega
        · rw [List.getElem?_eq_none (by simpa using hj)]
    · rw [deal_get _ _ hi]
      refine congrArg some (List.ext_getElem? fun j => ?_)
      by_cases hj : j < 8
      · rw [level_get _ _ _ hj, level_get _ _ _ hj, h, if_neg (by omega)]
      · rw [List.getElem?_eq_none (by simpa using hj), List.getElem?_eq_none (by simpa using hj)]
  · rw [List.getElem?_eq_none (by rw [deal_len]; omega)]
    split
    · omega
    · rw [List.getElem?_eq_none (by rw [deal_len]; omega)]
theorem place_lt {at_ now : Int} (h0 : 0 ≤ at_) : ∃ l s : Nat, l < 3 ∧ s < 8 ∧ placeP at_ now = ((l : Int), (s : Int)) := by
  unfold placeP
  split
  · exact ⟨0, (at_ % 8).toNat, by omega, by omega, Prod.ext (by simp) (by simp; omega)⟩
  · split
    · exact ⟨1, (at_ / 8 % 8).toNat, by omega, by omega, Prod.ext (by simp) (by simp; omega)⟩
    · exact ⟨2, (at_ / 64 % 8).toNat, by omega, by omega, Prod.ext (by simp) (by simp; omega)⟩
end Go.Proofs.Ytojpimpfpjhflaa.Wh
namespace Go.Proofs.Ytojpimpfpjhflaa.Wh
open Go.RowKit Go.Proofs.Ytojpimpfpjhflaa.Fw Go.Proofs.YtojpimpfpjhflaaW.PrintWords Go.Proofs.Ytojpimpfpjhflaa.PFnExactWheelOK
set_option linter.unusedVariables false
set_option linter.unusedSimpArgs false
theorem flatT_len : ∀ ts : List S57, (flatT ts).length = ts.length * 3
  | [] => rfl
  | x :: ts => by
    have e : flatT (x :: ts) = encT x ++ flatT ts := rfl
    rw [e, List.length_append, flatT_len ts, List.length_cons, Nat.add_mul]
    show 3 + _ = _
    omega
theorem flatT_app (a b : List S57) : flatT (a ++ b) = flatT a ++ flatT b := by unfold flatT; rw [List.flatMap_append]
theorem flatT_take (ts : List S57) (i : Nat) : (flatT ts).take (i * 3) = flatT (ts.take i) := by
  rcases Nat.lt_or_ge i ts.length with h | h
  · have e : flatT ts = flatT (ts.take i) ++ flatT (ts.drop i) := by rw [← flatT_app, List.take_append_drop]
    have l : (flatT (ts.take i)).length = i * 3 := by rw [flatT_len, List.length_take]; congr 1; omega
    rw [e, List.take_append_of_le_length (by omega), List.take_of_length_le (by omega)]
  · rw [List.take_of_length_le h, List.take_of_length_le]
    rw [flatT_len]; exact Nat.mul_le_mul_right _ h
theorem flatT_drop (ts : List S57) (i : Nat) : (flatT ts).drop (i * 3) = flatT (ts.drop i) := by
  rcases Nat.lt_or_ge i ts.length with h | h
  · have e : flatT ts = flatT (ts.take i) ++ flatT (ts.drop i) := by rw [← flatT_app, List.take_append_drop]
    have l : (flatT (ts.take i)).length = i * 3 := by rw [flatT_len, List.length_take]; congr 1; omega
    rw [e, List.drop_append_of_le_length (by omega), List.drop_of_length_le (by omega), List.nil_append]
  · rw [List.drop_of_length_le h, List.drop_of_length_le]
    · rfl
    · rw [flatT_len]; exact Nat.mul_le_mul_right _ h
theorem flat_of_vss {w : World} : ∀ {ts : List S57} {vss : List (List Value)}, vss.length = ts.length → (∀ (j : Nat) (x : S57) (vs : List Value), ts[j]? = some x → vss[j]? = some vs → k57.K w x vs) → vss.flatten = flatT ts
  | [], [], _, _ => rfl
  | x :: ts, vs :: vss, hl, hk => by
    have e : vs = encT x := own57_open (flat57 (hk 0 x vs rfl rfl))
    rw [List.flatten_cons, flat_of_vss (by simpa using hl) (fun j y us hy hu => hk (j + 1) y us hy hu), e]
    rfl
section
variable {w0 w : World} {S0 : Fp} {L : List Asn} {K : Asn → List Asn} {g c : Nat} {ts : List S57} {A : Option Addr}
theorem _root_.Go.Proofs.Ytojpimpfpjhflaa.Fw.St.rawT (H : St w0 S0 L w) (hu : U L (RT A c ts) K) (hn : 0 < ts.length) : ∃ (g : Nat) (cs : List Value), A = some ⟨g, 0, none⟩ ∧ St w0 S0 (K (Bk g cs 57)) w ∧ cs.length = c * 3 ∧ ts.length ≤ c ∧ c ≤ maxLen ∧ cs.take (ts.length * 3) = flatT ts := by
  obtain ⟨g, cs, vss, rfl, h1, h2, h3, h4, h5, h6, _, h7⟩ := H.raw hu hn
  exact ⟨g, cs, rfl, h1, h2, h3, h4, h5.trans (flat_of_vss h6 h7)⟩
theorem _root_.Go.Proofs.Ytojpimpfpjhflaa.Fw.St.unrawT {cs : List Value} (H : St w0 S0 L w) (hu : U L (Bk g cs 57) K) (hc : cs.length = c * 3) (hx : ts.length ≤ c) (hm : c ≤ maxLen) (ht : cs.take (ts.length * 3) = flatT ts) : St w0 S0 (K (RT (some ⟨g, 0, none⟩) c ts)) w := by
  have hl : (ts.map encT).length = ts.length := by simp
  have hk : ∀ (j : Nat) (x : S57) (vs : List Value), ts[j]? = some x → (ts.map encT)[j]? = some vs → k57.K w x vs := fun j x vs hx hv => by
    rw [List.getElem?_map, hx] at hv
    simp at hv
    subst hv
    exact k57_mk w x
  exact H.unraw hu flat57 hc hx hm (ht.trans (flat_of_vss hl hk).symm) hl hk
end
theorem take_cut {cs : List Value} {m : Nat} {ts : List S57} (h : cs.take (ts.length * 3) = flatT ts) (hm : m ≤ ts.length) : cs.take (m * 3) = flatT (ts.take m) := by
  rw [← flatT_take, ← h, List.take_take, Nat.min_eq_left (Nat.mul_le_mul_right _ hm)]
theorem cell_cut {cs : List Value} {ts : List S57} (h : cs.take (ts.length * 3) = flatT ts) (i j : Nat) (u : Value) (hj : (flatT (ts.drop i))[j]? = some u) : cs[i * 3 + j]? = some u := by
  rw [← flatT_drop, ← h, List.getElem?_drop, List.getElem?_take] at hj
  split at hj
  · exact hj
  · simp at hj
end Go.Proofs.Ytojpimpfpjhflaa.Wh
namespace Go.Proofs.Ytojpimpfpjhflaa.Wh
open Go.RowKit Go.Proofs.Ytojpimpfpjhflaa.Fw Go.Proofs.YtojpimpfpjhflaaW.PrintWords Go.Proofs.Ytojpimpfpjhflaa.PFnExactWheelOK
set_option linter.unusedVariables false
set_option linter.unusedSimpArgs false
/-- The number is there, at its first place; or it is nowhere. -/
theorem fidx_cases (id : Int) (ts : List S57) : (∃ k : Nat, k < ts.length ∧ fidx id ts = k ∧ (ts.getD k z57).f0 = id ∧ ∀ j, j < k → (ts.getD j z57).f0 ≠ id) ∨ (fidx id ts = -1 ∧ ∀ x ∈ ts, x.f0 ≠ id) := by
  by_cases h : ∃ k, k < ts.length ∧ (ts.getD k z57).f0 = id
  · have hm : ∃ k, (k < ts.length ∧ (ts.getD k z57).f0 = id) ∧ ∀ j, j < k → ¬ (j < ts.length ∧ (ts.getD j z57).f0 = id) := by
      obtain ⟨k, hk⟩ := h
      induction k using Nat.strongRecOn with
      | ind k ih =>
        by_cases hj : ∃ j, j < k ∧ (j < ts.length ∧ (ts.getD j z57).f0 = id)
        · obtain ⟨j, hj1, hj2⟩ := hj
          exact ih j hj1 hj2
        · exact ⟨k, hk, fun j hj1 hj2 => hj ⟨j, hj1, hj2⟩⟩
    obtain ⟨k, ⟨h1, h2⟩, h3⟩ := hm
    have h4 : ∀ j, j < k → (ts.getD j z57).f0 ≠ id := fun j hj e => h3 j hj ⟨by omega, e⟩
    refine .inl ⟨k, h1, ?_, h2, h4⟩
    unfold fidx idxP
    rw [idxFrom_at _ ts k 0 h1 (fun j hj => decide_eq_false (h4 j hj)) (decide_eq_true h2), Nat.zero_add]
  · refine .inr ⟨?_, fun x hx e => ?_⟩
    · unfold fidx idxP
      exact idxFrom_no _ ts 0 fun j hj => decide_eq_false fun e => h ⟨j, hj, e⟩
    · obtain ⟨j, hj, e'⟩ := List.getElem_of_mem hx
      exact h ⟨j, hj, by rw [List.getD_eq_getElem?_getD, List.getElem?_eq_getElem hj, e']; exact e⟩
/-- All but those of a number. -/
def noId (id : Int) (ts : List S57) : List S57 := ts.filter fun x => decide (x.f0 ≠ id)
theorem cut_noId (id : Int) (ts : List S57) (k : Nat) (hk : k < ts.length) (he : (ts.getD k z57).f0 = id) (hn : (ts.map (·.f0)).Nodup) : ts.take k ++ ts.drop (k + 1) = noId id ts := by
  have e : ts = ts.take k ++ ts.getD k z57 :: ts.drop (k + 1) := by rw [← drop_getD ts k z57 hk, List.take_append_drop]
  have hne : ∀ i, i ≠ k → i < ts.length → (ts.getD i z57).f0 ≠ id := fun i hi hl e' => by
    rcases Nat.lt_or_gt_of_ne hi with h | h
    · exact of_nodup_map _ ts hn i k h hk (by rw [e', he])
    · exact of_nodup_map _ ts hn k i h hl (by rw [e', he])
  have h1 : (ts.take k).filter (fun x => decide (x.f0 ≠ id)) = ts.take k := by
    refine List.filter_eq_self.2 fun x hx => decide_eq_true ?_
    obtain ⟨i, hi, e'⟩ := List.getElem_of_mem hx
    rw [List.length_take] at hi
    rw [List.getElem_take] at e'
    have := hne i (by omega) (by omega)
    rwa [List.getD_eq_getElem?_getD, List.getElem?_eq_getElem (by omega), Option.getD_some, e'] at this
  have h2 : (ts.drop (k + 1)).filter (fun x => decide (x.f0 ≠ id)) = ts.drop (k + 1) := by
    refine List.filter_eq_self.2 fun x hx => decide_eq_true ?_
    obtain ⟨i, hi, e'⟩ := List.getElem_of_mem hx
    rw [List.length_drop] at hi
    rw [List.getElem_drop] at e'
    have := hne (k + 1 + i) (by omega) (by omega)
    rwa [List.getD_eq_getElem?_getD, List.getElem?_eq_getElem (by omega), Option.getD_some, e'] at this
  unfold noId
  conv => rhs; rw [e]
  rw [List.filter_append, List.filter_cons, if_neg (by simp only [he, ne_eq, not_true_eq_false, decide_false]; simp), h1, h2]
theorem noId_none (id : Int) (ts : List S57) (h : ∀ x ∈ ts, x.f0 ≠ id) : noId id ts = ts := List.filter_eq_self.2 fun x hx => decide_eq_true (h x hx)
/-- Is a number there. -/
def hasId (id : Int) (ts : List S57) : Bool := ts.any fun x => decide (x.f0 = id)
theorem hasId_perm {id : Int} {a b : List S57} (h : a.Perm b) : hasId id a = hasId id b := by
  unfold hasId
  rw [Bool.eq_iff_iff, List.any_eq_true, List.any_eq_true]
  exact ⟨fun ⟨x, hx, e⟩ => ⟨x, h.mem_iff.1 hx, e⟩, fun ⟨x, hx, e⟩ => ⟨x, h.mem_iff.2 hx, e⟩⟩

/-! ### a sorted list is one -/
theorem sorted_one : ∀ (a b : List S57), a.Perm b → a.Pairwise (fun x y => x.f2 < y.f2) → b.Pairwise (fun x y => x.f2 < y.f2) → a = b
  | [], b, h, _, _ => h.symm.eq_nil.symm
  | x :: a, b, h, ha, hb => by
    cases b with
    | nil => exact absurd h.eq_nil (by simp)
    | cons y b =>
      have hx := List.pairwise_cons.1 ha
      have hy := List.pairwise_cons.1 hb
      have e : x = y := by
        rcases List.mem_cons.1 (h.mem_iff.1 (List.mem_cons_self (a := x) (l := a))) with e | h1
        · exact e
        · rcases List.mem_cons.1 (h.mem_iff.2 (List.mem_cons_self (a := y) (l := b))) with e | h2
          · exact e.symm
          · have := hx.1 y h2
            have := hy.1 x h1
            omega
      subst e
      rw [sorted_one a b (List.Perm.cons_inv h) hx.2 hy.2]
theorem slotB_sorted (now order lvl slot : Int) : ∀ (p : Int) (l : List S57), slotB now order lvl slot p l = true → (∀ x ∈ l, p < x.f2) ∧ l.Pairwise (fun x y => x.f2 < y.f2)
  | p, [], _ => ⟨fun _ h => absurd h List.not_mem_nil, List.Pairwise.nil⟩
  | p, y :: ys, h => by
    unfold slotB at h
    split at h
    · rename_i hc
      obtain ⟨h1, h2⟩ := slotB_sorted now order lvl slot y.f2 ys h
      refine ⟨fun x hx => ?_, List.pairwise_cons.2 ⟨fun x hx => h1 x hx, h2⟩⟩
      rcases List.mem_cons.1 hx with rfl | hx
      · omega
      · have := h1 x hx; omega
    · cases h
theorem slotB_place (now order lvl slot : Int) : ∀ (p : Int) (l : List S57), slotB now order lvl slot p l = true → ∀ x ∈ l, placeP x.f1 now = (lvl, slot)
  | p, [], _, x, hx => absurd hx List.not_mem_nil
  | p, y :: ys, h, x, hx => by
    unfold slotB at h
    split at h
    · rename_i hc
      rcases List.mem_cons.1 hx with rfl | hx
      · exact Prod.ext hc.2.2.1 hc.2.2.2
      · exact slotB_place now order lvl slot y.f2 ys h x hx
    · cases h
section
variable {now order : Int} {lv : List (List (List S57))}
theorem Good.slots (hG : Good now order lv) {l s : Nat} (hl : l < 3) (hs : s < 8) : slotB now order l s 0 ((lv.getD l []).getD s []) = true := (hG.level l hl).2 s hs
theorem Good.len (hG : Good now order lv) {l : Nat} (hl : l < 3) : (lv.getD l []).length = 8 := (hG.level l hl).1
theorem filter_flat {α : Type} (p : α → Bool) : ∀ (L : List (List α)) (i : Nat), i < L.length → (∀ j, j < L.length → j ≠ i → (L.getD j []).filter p = []) → L.flatten.filter p = (L.getD i []).filter p
  | x :: L, 0, _, h => by
    rw [List.flatten_cons, List.filter_append]
    have : L.flatten.filter p = [] := by
      refine List.filter_eq_nil_iff.2 fun a ha => ?_
      obtain ⟨l, hl, hal⟩ := List.mem_flatten.1 ha
      obtain ⟨j, hj, e⟩ := List.getElem_of_mem hl
      have h1 := h (j + 1) (by simpa using hj) (by omega)
      rw [List.getD_eq_getElem?_getD] at h1
      simp only [List.getElem?_cons_succ, List.getElem?_eq_getElem hj, Option.getD_some, e] at h1
      exact fun hp => List.filter_eq_nil_iff.1 h1 a hal hp
    rw [this, List.append_nil]
    rfl
  | x :: L, i + 1, hi, h => by
    rw [List.flatten_cons, List.filter_append]
    have h0 : x.filter p = [] := h 0 (by simp) (by omega)
    rw [h0, List.nil_append]
    exact filter_flat p L i (by simpa using hi) (fun j hj hji => h (j + 1) (by simpa using hj) (by omega))
theorem getD_map3 (i : Nat) (h : i < 3) (hl : lv.length = 3) : (lv.map List.flatten).getD i [] = (lv.getD i []).flatten := by
  rw [List.getD_eq_getElem?_getD, List.getD_eq_getElem?_getD, List.getElem?_map, List.getElem?_eq_getElem (by omega)]
  rfl
theorem flatten2 (lv : List (List (List S57))) : lv.flatten.flatten = (lv.map List.flatten).flatten := by
  induction lv with
  | nil => rfl
  | cons a lv ih => rw [List.flatten_cons, List.flatten_append, List.map_cons, List.flatten_cons, ih]
theorem Good.slot_of (hG : Good now order lv) {l s : Nat} (hl : l < 3) (hs : s < 8) : slotF now lv.flatten.flatten l s = (lv.getD l []).getD s [] := by
  have hin : ∀ l' s', l' < 3 → s' < 8 → ∀ x ∈ (lv.getD l' []).getD s' [], placeP x.f1 now = ((l' : Int), (s' : Int)) := fun l' s' h1 h2 => slotB_place _ _ _ _ _ _ (hG.slots h1 h2)
  have hlevel : ∀ l', l' < 3 → l' ≠ l → (lv.getD l' []).flatten.filter (fun x => decide (placeP x.f1 now = ((l : Int), (s : Int)))) = [] := fun l' h1 hne => by
    refine List.filter_eq_nil_iff.2 fun x hx hp => ?_
    obtain ⟨sl, h2, h3⟩ := List.mem_flatten.1 hx
    obtain ⟨s', hs', e⟩ := List.getElem_of_mem h2
    have := hin l' s' h1 (by rw [hG.len h1] at hs'; exact hs') x (by rw [List.getD_eq_getElem?_getD, List.getElem?_eq_getElem hs', Option.getD_some, e]; exact h3)
    rw [of_decide_eq_true hp, Prod.mk.injEq] at this
    omega
  have hself : ((lv.getD l []).getD s []).filter (fun x => decide (placeP x.f1 now = ((l : Int), (s : Int)))) = (lv.getD l []).getD s [] := List.filter_eq_self.2 fun x hx => decide_eq_true (hin l s hl hs x hx)
  have hone : (lv.getD l []).flatten.filter (fun x => decide (placeP x.f1 now = ((l : Int), (s : Int)))) = (lv.getD l []).getD s [] := by
    refine (filter_flat _ _ s (by rw [hG.len hl]; exact hs) fun j hj hne => ?_).trans hself
    refine List.filter_eq_nil_iff.2 fun x hx hp => ?_
    have := hin l j hl (by rw [hG.len hl] at hj; exact hj) x hx
    rw [of_decide_eq_true hp, Prod.mk.injEq] at this
    omega
  have hlv := hG.three
  unfold slotF
  rw [flatten2]
  have key := filter_flat (fun x : S57 => decide (placeP x.f1 now = ((l : Int), (s : Int)))) (lv.map List.flatten) l (by rw [List.length_map]; omega)
    (fun j hj hne => by rw [List.length_map] at hj; rw [getD_map3 j (by omega) hlv]; exact hlevel j (by omega) hne)
  rw [key, getD_map3 l hl hlv, hone]
/-- The timers of a right wheel, in the order of their setting, dealt out, are the wheel. -/
theorem Good.slot_eq (hG : Good now order lv) {ts : List S57} (hp : ts.Perm lv.flatten.flatten) (hs : ts.Pairwise (fun a b => a.f2 ≤ b.f2)) {l s : Nat} (hl : l < 3) (hs8 : s < 8) : slotF now ts l s = (lv.getD l []).getD s [] := by
  have hnd : (ts.map (·.f2)).Nodup := (hp.map (·.f2)).nodup_iff.2 hG.orders
  have hst : ts.Pairwise (fun a b => a.f2 < b.f2) := by
    have h2 : ts.Pairwise (fun a b => a.f2 ≠ b.f2) := List.pairwise_map.1 hnd
    exact hs.imp₂ (fun a b h1 h2 => by omega) h2
  refine sorted_one _ _ ?_ (hst.filter _) (slotB_sorted _ _ _ _ _ _ (hG.slots hl hs8)).2
  rw [← hG.slot_of hl hs8]
  exact hp.filter _
theorem lv_ext {a b : List (List (List S57))} (ha : a.length = 3) (hb : b.length = 3) (h8 : ∀ l, l < 3 → (a.getD l []).length = 8 ∧ (b.getD l []).length = 8) (h : ∀ l s, l < 3 → s < 8 → (a.getD l []).getD s [] = (b.getD l []).getD s []) : a = b := by
  refine List.ext_getElem (by omega) fun l h1 h2 => ?_
  have e1 : a.getD l [] = a[l] := by rw [List.getD_eq_getElem?_getD, List.getElem?_eq_getElem h1]; rfl
  have e2 : b.getD l [] = b[l] := by rw [List.getD_eq_getElem?_getD, List.getElem?_eq_getElem h2]; rfl
  have h8' := h8 l (by omega)
  rw [e1, e2] at h8'
  refine List.ext_getElem (by omega) fun s h3 h4 => ?_
  have := h l s (by omega) (by omega)
  rw [e1, e2, List.getD_eq_getElem?_getD, List.getElem?_eq_getElem h3, List.getD_eq_getElem?_getD, List.getElem?_eq_getElem h4] at this
  exact this
theorem deal_getD (ts : List S57) {l s : Nat} (hl : l < 3) (hs : s < 8) : ((deal now ts).getD l []).getD s [] = slotF now ts l s := by
  rw [List.getD_eq_getElem?_getD, List.getD_eq_getElem?_getD, deal_get _ _ hl, Option.getD_some, level_get _ _ _ hs, Option.getD_some]
theorem deal_lens (ts : List S57) {l : Nat} (hl : l < 3) : ((deal now ts).getD l []).length = 8 := by
  rw [List.getD_eq_getElem?_getD, deal_get _ _ hl, Option.getD_some, level_len]
theorem Good.deal_eq (hG : Good now order lv) {ts : List S57} (hp : ts.Perm lv.flatten.flatten) (hs : ts.Pairwise (fun a b => a.f2 ≤ b.f2)) : deal now ts = lv :=
  lv_ext (deal_len _ _) hG.three (fun l hl => ⟨deal_lens ts hl, hG.len hl⟩) fun l s hl h8 => by rw [deal_getD ts hl h8, hG.slot_eq hp hs hl h8]
/-- A wheel without the timers of a number. -/
def noLv (id : Int) (lv : List (List (List S57))) : List (List (List S57)) := lv.map (List.map (noId id))
theorem slotF_noId (id : Int) (ts : List S57) (l s : Nat) : slotF now (noId id ts) l s = noId id (slotF now ts l s) := by
  unfold slotF noId
  rw [List.filter_filter, List.filter_filter]
  congr 1
  funext x
  exact Bool.and_comm _ _
theorem getD_noLv (id : Int) (lv : List (List (List S57))) (l s : Nat) (hl : l < lv.length) (hs : s < (lv.getD l []).length) : ((noLv id lv).getD l []).getD s [] = noId id ((lv.getD l []).getD s []) := by
  unfold noLv
  have e : (lv.map (List.map (noId id))).getD l [] = (lv.getD l []).map (noId id) := by
    rw [List.getD_eq_getElem?_getD, List.getElem?_map, List.getElem?_eq_getElem hl, List.getD_eq_getElem?_getD, List.getElem?_eq_getElem hl]
    rfl
  rw [e]
  generalize lv.getD l [] = a at hs
  rw [List.getD_eq_getElem?_getD, List.getElem?_map, List.getElem?_eq_getElem hs, List.getD_eq_getElem?_getD, List.getElem?_eq_getElem hs]
  rfl
theorem len_noLv (id : Int) (lv : List (List (List S57))) (l : Nat) : ((noLv id lv).getD l []).length = (lv.getD l []).length := by
  unfold noLv
  rw [List.getD_eq_getElem?_getD, List.getElem?_map, List.getD_eq_getElem?_getD]
  cases lv[l]? <;> simp
theorem Good.deal_noId (hG : Good now order lv) {ts : List S57} (hp : ts.Perm lv.flatten.flatten) (hs : ts.Pairwise (fun a b => a.f2 ≤ b.f2)) (id : Int) : deal now (noId id ts) = noLv id lv :=
  lv_ext (deal_len _ _) (by unfold noLv; rw [List.length_map]; exact hG.three) (fun l hl => ⟨deal_lens _ hl, by rw [len_noLv]; exact hG.len hl⟩) fun l s hl h8 => by
    rw [deal_getD _ hl h8, slotF_noId, hG.slot_eq hp hs hl h8, getD_noLv id lv l s (by rw [hG.three]; exact hl) (by rw [hG.len hl]; exact h8)]
theorem inj_nodup {β : Type} (f : S57 → β) : ∀ (ts : List S57), (ts.map f).Nodup → ∀ x ∈ ts, ∀ y ∈ ts, f x = f y → x = y
  | [], _, x, hx, _, _, _ => absurd hx List.not_mem_nil
  | z :: ts, h, x, hx, y, hy, e => by
    rw [List.map_cons, List.nodup_cons] at h
    rcases List.mem_cons.1 hx with ex | hx'
    · rcases List.mem_cons.1 hy with ey | hy'
      · rw [ex, ey]
      · exact absurd (List.mem_map.2 ⟨y, hy', by rw [← e, ex]⟩) h.1
    · rcases List.mem_cons.1 hy with ey | hy'
      · exact absurd (List.mem_map.2 ⟨x, hx', by rw [e, ey]⟩) h.1
      · exact inj_nodup f ts h.2 x hx' y hy' e
theorem sub_flatten {α : Type} {a b : List (List α)} (h : a.Sublist b) : a.flatten.Sublist b.flatten := by
  induction h with
  | slnil => exact List.Sublist.refl _
  | cons x _ ih => rw [List.flatten_cons]; exact ih.trans (List.sublist_append_right _ _)
  | cons_cons x _ ih => rw [List.flatten_cons, List.flatten_cons]; exact List.Sublist.append (List.Sublist.refl _) ih
theorem getD_setL {α : Type} (l : List (List α)) (i j : Nat) (x : List α) (hi : i < l.length) : (l.set i x).getD j [] = if i = j then x else l.getD j [] := by
  rw [List.getD_eq_getElem?_getD, List.getElem?_set]
  by_cases e : i = j
  · rw [if_pos e, if_pos hi, if_pos e]; rfl
  · rw [if_neg e, if_neg e, List.getD_eq_getElem?_getD]
theorem mem_getD {α : Type} {L : List (List α)} {i : Nat} {x : α} (h : x ∈ L.getD i []) : L.getD i [] ∈ L := by
  rw [List.getD_eq_getElem?_getD] at h ⊢
  cases e : L[i]? with
  | none => rw [e] at h; simp at h
  | some a => exact List.mem_of_getElem? e
theorem mem_slot {l s : Nat} {x : S57} (h : x ∈ (lv.getD l []).getD s []) : x ∈ lv.flatten.flatten := by
  have h1 := mem_getD h
  have h2 : lv.getD l [] ∈ lv := by
    by_cases e : lv.getD l [] = []
    · rw [e] at h; simp at h
    · obtain ⟨y, hy⟩ := List.exists_mem_of_ne_nil _ e
      exact mem_getD hy
  exact List.mem_flatten.2 ⟨_, List.mem_flatten.2 ⟨_, h2, h1⟩, h⟩
theorem sub_slot (l s : Nat) : ((lv.getD l []).getD s []).Sublist lv.flatten.flatten := by
  have hs : ∀ {α : Type} (L : List (List α)) (i : Nat), (L.getD i []).Sublist L.flatten := fun {α} L i => by
    rw [List.getD_eq_getElem?_getD]
    cases e : L[i]? with
    | none => exact List.nil_sublist _
    | some a =>
      have := List.mem_of_getElem? e
      exact List.sublist_flatten_of_mem this
  have h1 := hs lv l
  have h2 := hs (lv.getD l []) s
  exact h2.trans (sub_flatten h1)
/-- One timer of the number is taken out of its slot: none of the number is left. -/
theorem Good.cut_noLv (hG : Good now order lv) {l s i : Nat} {id : Int} (hl : l < 3) (hs : s < 8) (hi : i < ((lv.getD l []).getD s []).length) (he : (((lv.getD l []).getD s []).getD i z57).f0 = id) :
    lv.set l ((lv.getD l []).set s (((lv.getD l []).getD s []).take i ++ ((lv.getD l []).getD s []).drop (i + 1))) = noLv id lv := by
  have h3 := hG.three
  have h8 := hG.len hl
  refine lv_ext (by rw [List.length_set]; exact h3) (by unfold noLv; rw [List.length_map]; exact h3) (fun l' hl' => ⟨?_, by rw [len_noLv]; exact hG.len hl'⟩) fun l' s' hl' hs' => ?_
  · rw [getD_setL _ _ _ _ (by omega)]
    split
    · rw [List.length_set]; exact h8
    · exact hG.len hl'
  · rw [getD_noLv id lv l' s' (by omega) (by rw [hG.len hl']; exact hs'), getD_setL _ _ _ _ (by omega)]
    by_cases e : l = l' ∧ s = s'
    · obtain ⟨rfl, rfl⟩ := e
      rw [if_pos rfl, getD_setL _ _ _ _ (by omega), if_pos rfl]
      exact cut_noId id _ i hi he (((sub_slot l s).map _).nodup hG.ids)
    · have hno : noId id ((lv.getD l' []).getD s' []) = (lv.getD l' []).getD s' [] := noId_none id _ fun y hy ey => by
        have hx : ((lv.getD l []).getD s []).getD i z57 ∈ (lv.getD l []).getD s [] := getD_mem hi
        have exy := inj_nodup (·.f0) _ hG.ids _ (mem_slot hx) _ (mem_slot hy) (he.trans ey.symm)
        have p1 := slotB_place _ _ _ _ _ _ (hG.slots hl hs) _ hx
        have p2 := slotB_place _ _ _ _ _ _ (hG.slots hl' hs') _ hy
        rw [exy, p2, Prod.mk.injEq] at p1
        omega
      rw [hno]
      split
      · rename_i e1
        subst e1
        rw [getD_setL _ _ _ _ (by omega), if_neg (fun e2 => e ⟨rfl, e2⟩)]
      · rfl
theorem noLv_none (id : Int) (lv : List (List (List S57))) (h : ∀ x ∈ lv.flatten.flatten, x.f0 ≠ id) : noLv id lv = lv := by
  unfold noLv
  refine (List.map_congr_left fun a ha => ?_).trans (List.map_id lv)
  refine (List.map_congr_left fun b hb => ?_).trans (List.map_id a)
  exact noId_none id b fun x hx => h x (List.mem_flatten.2 ⟨b, List.mem_flatten.2 ⟨a, ha, hb⟩, hx⟩)
end
end Go.Proofs.Ytojpimpfpjhflaa.Wh
namespace Go.Proofs.Ytojpimpfpjhflaa.Wh
open Go.RowKit Go.Proofs.Ytojpimpfpjhflaa.Fw Go.Proofs.YtojpimpfpjhflaaW.PrintWords Go.Proofs.Ytojpimpfpjhflaa.PFnExactWheelOK
set_option linter.unusedVariables false
set_option linter.unusedSimpArgs false
theorem build29 (a b : Int) (A : Option Addr) (n c : Nat) (w : World) : (Instr.build 29 #[(0, .int .i64 a), (1, .int .i64 b), (2, .slice A n c)]).run Try.prog w = .ok (.agg #[.int .i64 a, .int .i64 b, .slice A n c]) w := by kernel_rfl
theorem nil54 (w : World) : o54.own w Em [] [.slice none 0 0] := ⟨.slice none 0 0, rfl, [], fun k hk => by simp [Value.ownBlock] at hk, World.ownsRow_nil _ _ _ _, trivial⟩
theorem nil55 (w : World) : o55.own w Em [] [.slice none 0 0] := ⟨.slice none 0 0, rfl, [], fun k hk => by simp [Value.ownBlock] at hk, World.ownsRow_nil _ _ _ _, trivial⟩
theorem lit1 (x : S57) (w : World) : (Instr.buildSlice 55 1 #[(0, .agg #[.int .i64 x.f0, .int .i64 x.f1, .int .i64 x.f2])]).run Try.prog w = .ok (.slice (some ⟨w.heap.size, 0, none⟩) [x].length [x].length) (w.alloc (.cells ([[.int .i64 x.f0, .int .i64 x.f1, .int .i64 x.f2]] : List (List Value)).flatten.toArray 57)) := by kernel_rfl
set_option maxHeartbeats 1000000 in
set_option maxRecDepth 20000 in
theorem wheel_tri (gt : Nat) (now order : Int) (A : Option Addr) (c : Nat) (ts : List S57) (w : World) (hn0 : 0 ≤ now) (hn1 : now ≤ 9223372036854775807) (htm : ∀ x ∈ ts, 0 ≤ x.f1 ∧ x.f1 ≤ 9223372036854775807) (hfew : ts.length ≤ 1000) :
    Tri Try.prog 47 #[.pointer (some ⟨gt, 0, none⟩)] w [Bk gt [.int .i64 now, .int .i64 order, .slice A ts.length c] 69, RT A c ts] fun e LQ => ∃ A' c', e = .returned (.agg #[.int .i64 now, .int .i64 order, .slice A' (deal now ts).length c']) ∧
      LQ = [Rw o54 54 (.slice A' (deal now ts).length c') (deal now ts), Bk gt [.int .i64 now, .int .i64 order, .slice A ts.length c] 69, RT A c ts] := by
  refine tri_of_run (fn := Try.f47) (n := 70) Try.func47 rfl Try.ntmps47 (Nat.le_of_ble_eq_true rfl) fun S H => ?_
  refine Run.seq (Run.regionL [0] rfl ?_)
  refine WO.salloc 2 (cs := [.int .i64 0, .int .i64 0, .slice none 0 0]) rfl rfl rfl Try.zeroValue29 rfl H ?_
  intro g2 w2 H2
  refine WO.done (Run.seq ?_)
  refine Run.mix 11 (fun j => if j = 8 then 9 else 11) (fun _ => []) (fun ii v Lp => ((fun i => Nat.beq i 8 || Nat.beq i 9 || Nat.beq i 10) ii = false → Lp = []) ∧ match ii with
      | 0 => v = .pointer (some ⟨gt, 0, none⟩)
      | 1 => v = .pointer (some ⟨gt, 0, none⟩)
      | 2 => v = .pointer (some ⟨gt, 0, none⟩)
      | 3 => v = .int .i64 now
      | 4 => v = .pointer (some ⟨gt, 0, none⟩)
      | 5 => v = .pointer (some ⟨gt, 0, none⟩)
      | 6 => v = .pointer (some ⟨gt, 1, none⟩)
      | 7 => v = .int .i64 order
      | 8 => ∃ g, v = .slice (some ⟨g, 0, none⟩) (List.replicate 3 ([] : List (List S57))).length 3 ∧ Lp = [Rw o54 54 (.slice (some ⟨g, 0, none⟩) (List.replicate 3 ([] : List (List S57))).length 3) (List.replicate 3 ([] : List (List S57)))]
      | 9 => ∃ g, v = .agg #[.int .i64 now, .int .i64 order, .slice (some ⟨g, 0, none⟩) (List.replicate 3 ([] : List (List S57))).length 3] ∧ Lp = [Rw o54 54 (.slice (some ⟨g, 0, none⟩) (List.replicate 3 ([] : List (List S57))).length 3) (List.replicate 3 ([] : List (List S57)))]
      | 10 => ∃ g, v = .pointer (some ⟨g, 0, none⟩) ∧ Lp = [Bk g [.int .i64 0, .int .i64 0, .slice none 0 0] 29]
      | _ => True)
    [Bk g2 [.int .i64 0, .int .i64 0, .slice none 0 0] 29, Bk gt [.int .i64 now, .int .i64 order, .slice A ts.length c] 69, RT A c ts] H2 (by kernel_rfl) rfl (by kernel_rfl) (by kernel_rfl) ?_ ?_
  · intro ii hii
    match ii, hii with
    | 0, _ =>
      exact ⟨_, rfl, fun τ' w' Lp Rest hfr hq HS => ⟨fun _ => opStep.val (r_moveP rfl (show τ' 0 = .pointer (some ⟨gt, 0, none⟩) from hfr 0 (by kernel_rfl))) ⟨[], ⟨fun _ => rfl, rfl⟩, HS⟩, fun h => nomatch h⟩⟩
    | 1, _ =>
      exact ⟨_, rfl, fun τ' w' Lp Rest hfr hq HS => ⟨fun _ => opStep.val (r_nilCheck rfl (show τ' 9 = .pointer (some ⟨gt, 0, none⟩) from (hq 0 (by kernel_rfl)).2)) ⟨[], ⟨fun _ => rfl, rfl⟩, HS⟩, fun h => nomatch h⟩⟩
    | 2, _ =>
      exact ⟨_, rfl, fun τ' w' Lp Rest hfr hq HS => ⟨fun _ => opStep.val (r_fieldAddr rfl (show τ' 10 = .pointer (some ⟨gt, 0, none⟩) from (hq 1 (by kernel_rfl)).2) Try.underlying69 rfl Try.sizeOf3 (q := 0) rfl) ⟨[], ⟨fun _ => rfl, rfl⟩, HS⟩, fun h => nomatch h⟩⟩
    | 3, _ =>
      exact ⟨_, rfl, fun τ' w' Lp Rest hfr hq HS => ⟨fun _ => opStep.val (r_load rfl (show τ' 11 = .pointer (some ⟨gt, 0, none⟩) from (hq 2 (by kernel_rfl)).2) Try.isAgg3 (HS.cell p1 rfl)) ⟨[], ⟨fun _ => rfl, rfl⟩, HS⟩, fun h => nomatch h⟩⟩
    | 4, _ =>
      exact ⟨_, rfl, fun τ' w' Lp Rest hfr hq HS => ⟨fun _ => opStep.val (r_moveP rfl (show τ' 0 = .pointer (some ⟨gt, 0, none⟩) from hfr 0 (by kernel_rfl))) ⟨[], ⟨fun _ => rfl, rfl⟩, HS⟩, fun h => nomatch h⟩⟩
    | 5, _ =>
      exact ⟨_, rfl, fun τ' w' Lp Rest hfr hq HS => ⟨fun _ => opStep.val (r_nilCheck rfl (show τ' 13 = .pointer (some ⟨gt, 0, none⟩) from (hq 4 (by kernel_rfl)).2)) ⟨[], ⟨fun _ => rfl, rfl⟩, HS⟩, fun h => nomatch h⟩⟩
    | 6, _ =>
      exact ⟨_, rfl, fun τ' w' Lp Rest hfr hq HS => ⟨fun _ => opStep.val (r_fieldAddr rfl (show τ' 14 = .pointer (some ⟨gt, 0, none⟩) from (hq 5 (by kernel_rfl)).2) Try.underlying69 rfl Try.sizeOf3 (q := 1) rfl) ⟨[], ⟨fun _ => rfl, rfl⟩, HS⟩, fun h => nomatch h⟩⟩
    | 7, _ =>
      exact ⟨_, rfl, fun τ' w' Lp Rest hfr hq HS => ⟨fun _ => opStep.val (r_load rfl (show τ' 15 = .pointer (some ⟨gt, 1, none⟩) from (hq 6 (by kernel_rfl)).2) Try.isAgg3 (HS.cell p1 rfl)) ⟨[], ⟨fun _ => rfl, rfl⟩, HS⟩, fun h => nomatch h⟩⟩
    | 8, _ =>
      refine ⟨_, rfl, fun τ' w' Lp Rest hfr hq HS => ⟨fun _ => ?_, fun h => nomatch h⟩⟩
      obtain ⟨g, w'', hr, H'⟩ := make_row (P := Try.prog) (ow := o54) (e := 54) (t := 27) (z0 := ([] : List (List S57))) Try.underlying27 info54 rfl (Nat.succ_pos _) (Nat.succ_pos _) nil54 HS 3 (by decide)
      exact opStep.val (r_make rfl rfl rfl hr) ⟨_, ⟨fun h => Bool.noConfusion h, g, rfl, rfl⟩, St.into (X := [_]) H'⟩
    | 9, _ =>
      refine ⟨_, rfl, fun τ' w' Lp Rest hfr hq HS => ⟨fun _ => ?_, fun h => nomatch h⟩⟩
      obtain ⟨g, h17, hL⟩ : ∃ g, τ' 17 = .slice (some ⟨g, 0, none⟩) (List.replicate 3 ([] : List (List S57))).length 3 ∧ Lp 8 = [Rw o54 54 (.slice (some ⟨g, 0, none⟩) (List.replicate 3 ([] : List (List S57))).length 3) (List.replicate 3 ([] : List (List S57)))] := (hq 8 (by kernel_rfl)).2
      have HS2 : St w S ([Bk g2 [.int .i64 0, .int .i64 0, .slice none 0 0] 29, Bk gt [.int .i64 now, .int .i64 order, .slice A ts.length c] 69, RT A c ts] ++ (Lp 8 ++ []) ++ Rest) w' := HS
      rw [hL] at HS2
      have h12 : τ' 12 = .int .i64 now := (hq 3 (by kernel_rfl)).2
      have h16 : τ' 16 = .int .i64 order := (hq 7 (by kernel_rfl)).2
      exact opStep.val (r_build rfl (build29 now order _ _ _ _) (bparts3 h12 h16 h17)) ⟨_, ⟨fun h => Bool.noConfusion h, g, rfl, rfl⟩, HS2⟩
    | 10, _ =>
      refine ⟨_, rfl, fun τ' w' Lp Rest hfr hq HS => ⟨fun _ => ?_, fun h => nomatch h⟩⟩
      have H' := HS.block_alloc (cs := [.int .i64 0, .int .i64 0, .slice none 0 0]) (t := 29)
      exact opStep.val (r_alloc rfl Try.zeroValue29 rfl) ⟨_, ⟨fun h => Bool.noConfusion h, _, rfl, rfl⟩, St.into (X := [_]) H'⟩
    | n + 11, hn => exact absurd hn (by omega)
  · intro τ' w9 Lp hQ hfr HS'
    rw [fm_pick (pr := fun i => Nat.beq i 8 || Nat.beq i 9 || Nat.beq i 10) (l := [9, 10]) (fun j hj => (hQ j hj).1) (by kernel_rfl)] at HS'
    have HS := HS'
    obtain ⟨gl, h18, hL1⟩ : ∃ g, τ' 18 = .agg #[.int .i64 now, .int .i64 order, .slice (some ⟨g, 0, none⟩) (List.replicate 3 ([] : List (List S57))).length 3] ∧ Lp 9 = [Rw o54 54 (.slice (some ⟨g, 0, none⟩) (List.replicate 3 ([] : List (List S57))).length 3) (List.replicate 3 ([] : List (List S57)))] := (hQ 9 (by decide)).2
    obtain ⟨g3, h3, hL2⟩ : ∃ g, τ' 3 = .pointer (some ⟨g, 0, none⟩) ∧ Lp 10 = [Bk g [.int .i64 0, .int .i64 0, .slice none 0 0] 29] := (hQ 10 (by decide)).2
    have h0 : τ' 0 = .pointer (some ⟨gt, 0, none⟩) := hfr 0 (by kernel_rfl)
    have h2 : τ' 2 = .pointer (some ⟨g2, 0, none⟩) := hfr 2 (by kernel_rfl)
    rw [List.flatMap_cons, List.flatMap_cons, hL1, hL2] at HS
    have HA : St w S [Rw o54 54 (.slice (some ⟨gl, 0, none⟩) (List.replicate 3 ([] : List (List S57))).length 3) (List.replicate 3 ([] : List (List S57))), Bk g3 [.int .i64 0, .int .i64 0, .slice none 0 0] 29, Bk g2 [.int .i64 0, .int .i64 0, .slice none 0 0] 29, Bk gt [.int .i64 now, .int .i64 order, .slice A ts.length c] 69, RT A c ts] w9 := HS.sel (.c q3 (.c q3 (.c q0 (.c q0 (.c q0 .n)))))
    clear HS HS' hQ hfr hL1 hL2 H H2
    refine WO.sstoreK (vs := [.int .i64 now, .int .i64 order, .slice (some ⟨gl, 0, none⟩) (List.replicate 3 ([] : List (List S57))).length 3]) rfl rfl rfl h3 h18 rfl rfl Try.sizeOf29 rfl HA p1 rfl ?_
    intro w10 HB
    refine WO.done (Run.seq (Run.seq (Run.regionL [0, 1, 2, 3] rfl ?_)))
    refine WO.v 19 rfl rfl (r_fieldAddr rfl h3 Try.underlying29 rfl Try.sizeOf27 (q := 0 + 2) rfl) ?_
    refine WO.v 20 rfl rfl (r_load rfl rfl Try.isAgg27 (HB.cell p1 rfl)) ?_
    refine WO.v 21 rfl rfl (r_len (e := 54) rfl rfl Try.underlying27) ?_
    refine WO.v 22 rfl rfl (r_moveI rfl rfl) ?_
    refine WO.done (Run.block ?_)
    refine Run.loopInv (fun m τ wr => ∃ (i : Nat) (lv : List (List (List S57))), i + m = 3 ∧ lv = (List.replicate i (List.replicate 8 ([] : List S57)) ++ List.replicate (3 - i) []) ∧ τ 0 = .pointer (some ⟨gt, 0, none⟩) ∧ τ 2 = .pointer (some ⟨g2, 0, none⟩) ∧ τ 3 = .pointer (some ⟨g3, 0, none⟩) ∧ τ 21 = .int .i64 3 ∧ τ 22 = .int .i64 i ∧
        St w S [Rw o54 54 (.slice (some ⟨gl, 0, none⟩) lv.length 3) lv, Bk g3 [.int .i64 now, .int .i64 order, .slice (some ⟨gl, 0, none⟩) lv.length 3] 29, Bk g2 [.int .i64 0, .int .i64 0, .slice none 0 0] 29, Bk gt [.int .i64 now, .int .i64 order, .slice A ts.length c] 69, RT A c ts] wr) 3 ⟨0, (List.replicate 3 ([] : List (List S57))), by omega, by simp, h0, h2, h3, rfl, rfl, HB⟩ ?_
    clear HA HB h0 h2 h3 h18
    rintro m τ wr ih ⟨i, lv, hm, hlv, h0, h2, h3, h21, h22, H⟩
    have h3l : lv.length = 3 := by rw [hlv, List.length_append, List.length_replicate, List.length_replicate]; omega
    refine Run.seq (Run.regionL [0] rfl ?_)
    refine WO.v 23 rfl rfl (r_lss rfl h22 h21 rfl) ?_
    refine WO.done (Run.seq (Run.test rfl (fun hq => ?_) (fun hq => ?_)))
    · refine Run.skip (Run.seq (Run.block (Run.seq (Run.regionL [0, 1] rfl ?_))))
      refine WO.v 24 rfl rfl (r_moveI rfl h22) ?_
      refine WO.v 4 rfl rfl (r_assignI rfl rfl) ?_
      refine WO.done ?_
      refine Run.mix 4 (fun j => 4) (fun _ => []) (fun ii v Lp => ((fun i => Nat.beq i 3) ii = false → Lp = []) ∧ match ii with
          | 0 => v = .pointer (some ⟨g3, 2, none⟩)
          | 1 => v = .slice (some ⟨gl, 0, none⟩) lv.length 3
          | 2 => v = .int .i64 (i : Int)
          | 3 => ∃ g, v = .slice (some ⟨g, 0, none⟩) (List.replicate 8 ([] : List S57)).length 8 ∧ Lp = [Rw o55 55 (.slice (some ⟨g, 0, none⟩) (List.replicate 8 ([] : List S57)).length 8) (List.replicate 8 ([] : List S57))]
          | _ => True)
        [Rw o54 54 (.slice (some ⟨gl, 0, none⟩) lv.length 3) lv, Bk g3 [.int .i64 now, .int .i64 order, .slice (some ⟨gl, 0, none⟩) lv.length 3] 29, Bk g2 [.int .i64 0, .int .i64 0, .slice none 0 0] 29, Bk gt [.int .i64 now, .int .i64 order, .slice A ts.length c] 69, RT A c ts] H (by kernel_rfl) rfl (by kernel_rfl) (by kernel_rfl) ?_ ?_
      · intro ii hii
        match ii, hii with
        | 0, _ =>
          exact ⟨_, rfl, fun τ' w' Lp Rest hfr hq HS => ⟨fun _ => opStep.val (r_fieldAddr rfl (show τ' 3 = .pointer (some ⟨g3, 0, none⟩) from (hfr 3 (by kernel_rfl)).trans h3) Try.underlying29 rfl Try.sizeOf27 (q := 2) rfl) ⟨[], ⟨fun _ => rfl, rfl⟩, HS⟩, fun h => nomatch h⟩⟩
        | 1, _ =>
          exact ⟨_, rfl, fun τ' w' Lp Rest hfr hq HS => ⟨fun _ => opStep.val (r_load rfl (show τ' 25 = .pointer (some ⟨g3, 2, none⟩) from (hq 0 (by kernel_rfl)).2) Try.isAgg27 (HS.cell p1 rfl)) ⟨[], ⟨fun _ => rfl, rfl⟩, HS⟩, fun h => nomatch h⟩⟩
        | 2, _ =>
          exact ⟨_, rfl, fun τ' w' Lp Rest hfr hq HS => ⟨fun _ => opStep.val (r_moveI rfl (show τ' 4 = .int .i64 (i : Int) from hfr 4 (by kernel_rfl))) ⟨[], ⟨fun _ => rfl, rfl⟩, HS⟩, fun h => nomatch h⟩⟩
        | 3, _ =>
          refine ⟨_, rfl, fun τ' w' Lp Rest hfr hq HS => ⟨fun _ => ?_, fun h => nomatch h⟩⟩
          obtain ⟨g, w'', hr, H'⟩ := make_row (P := Try.prog) (ow := o55) (e := 55) (t := 54) (z0 := ([] : List S57)) Try.underlying54 info55 rfl (Nat.succ_pos _) (Nat.succ_pos _) nil55 HS 8 (by decide)
          exact opStep.val (r_make rfl rfl rfl hr) ⟨_, ⟨fun h => Bool.noConfusion h, g, rfl, rfl⟩, St.into (X := [_]) H'⟩
        | n + 4, hn => exact absurd hn (by omega)
      · intro τ' w9 Lp hQ hfr HS'
        rw [fm_pick (pr := fun i => Nat.beq i 3) (l := [3]) (fun j hj => (hQ j hj).1) (by kernel_rfl)] at HS'
        have HS := HS'
        obtain ⟨gn, h28, hL1⟩ : ∃ g, τ' 28 = .slice (some ⟨g, 0, none⟩) (List.replicate 8 ([] : List S57)).length 8 ∧ Lp 3 = [Rw o55 55 (.slice (some ⟨g, 0, none⟩) (List.replicate 8 ([] : List S57)).length 8) (List.replicate 8 ([] : List S57))] := (hQ 3 (by decide)).2
        have h26 : τ' 26 = .slice (some ⟨gl, 0, none⟩) lv.length 3 := (hQ 1 (by decide)).2
        have h27 : τ' 27 = .int .i64 i := (hQ 2 (by decide)).2
        rw [List.flatMap_cons, hL1] at HS
        have HA := (HS.perm (List.perm_append_comm (l₁ := [Rw o54 54 (.slice (some ⟨gl, 0, none⟩) lv.length 3) lv, Bk g3 [.int .i64 now, .int .i64 order, .slice (some ⟨gl, 0, none⟩) lv.length 3] 29, Bk g2 [.int .i64 0, .int .i64 0, .slice none 0 0] 29, Bk gt [.int .i64 now, .int .i64 order, .slice A ts.length c] 69, RT A c ts]) (l₂ := [Rw o55 55 (.slice (some ⟨gn, 0, none⟩) (List.replicate 8 ([] : List S57)).length 8) (List.replicate 8 ([] : List S57))]))).elR p0
        have f0 : τ' 0 = .pointer (some ⟨gt, 0, none⟩) := (hfr 0 (by kernel_rfl)).trans h0
        have f2 : τ' 2 = .pointer (some ⟨g2, 0, none⟩) := (hfr 2 (by kernel_rfl)).trans h2
        have f3 : τ' 3 = .pointer (some ⟨g3, 0, none⟩) := (hfr 3 (by kernel_rfl)).trans h3
        have f21 : τ' 21 = .int .i64 3 := (hfr 21 (by kernel_rfl)).trans h21
        have f22 : τ' 22 = .int .i64 i := (hfr 22 (by kernel_rfl)).trans h22
        clear HS HS' hQ hfr hL1 H h0 h2 h3 h21 h22
        refine WO.v 29 rfl rfl (r_indexAddr rfl h26 h27 Try.underlying27 Try.sizeOf54 (by omega) (by omega) (q := 0 + i) (by rw [Int.toNat_natCast, Nat.mul_one])) ?_
        refine WO.sput (j := i) rfl rfl rfl rfl h28 rfl Try.sizeOf54 rfl HA p0 (by omega) (by show 0 + i = i * 1; omega) ?_
        intro wS HS
        have hset : lv.set i (List.replicate 8 ([] : List S57)) = List.replicate (i + 1) (List.replicate 8 ([] : List S57)) ++ List.replicate (3 - (i + 1)) [] := by
          rw [hlv]; exact set_rep i 3 (by omega) _ _
        have hsl : (lv.set i (List.replicate 8 ([] : List S57))).length = lv.length := List.length_set
        refine WO.done (Run.blockEnd (Run.regionL [0, 1] rfl ?_))
        refine WO.v 30 rfl rfl (r_add rfl f22 rfl (c := (i : Int) + 1) (wrap_in (by omega) (by omega))) ?_
        refine WO.v 22 rfl rfl (r_moveI rfl rfl) ?_
        exact WO.done (ih (m - 1) _ _ (by omega) ⟨i + 1, lv.set i (List.replicate 8 ([] : List S57)), by omega, hset, f0, f2, f3, f21, rfl, by rw [hsl]; exact HS⟩)
    · have hi3 : i = 3 := by omega
      have hlvd : lv = deal now (ts.take 0) := by rw [hlv, hi3]; exact (deal_nil now).symm
      refine Run.exit rfl (Run.seq (Run.seq (Run.regionL [0, 1, 2, 3, 4, 5] rfl ?_)))
      refine WO.v 31 rfl rfl (r_moveP rfl h0) ?_
      refine WO.v 32 rfl rfl (r_nilCheck rfl rfl) ?_
      refine WO.v 33 rfl rfl (r_fieldAddr rfl rfl Try.underlying69 rfl Try.sizeOf55 (q := 0 + 2) rfl) ?_
      refine WO.v 34 rfl rfl (r_load rfl rfl Try.isAgg55 (H.cell p3 rfl)) ?_
      refine WO.v 35 rfl rfl (r_len (e := 57) rfl rfl Try.underlying55) ?_
      refine WO.v 36 rfl rfl (r_moveI rfl rfl) ?_
      refine WO.done (Run.block ?_)
      refine Run.loopInv (fun m τ wr => ∃ (i : Nat) (lv : List (List (List S57))), i + m = ts.length ∧ lv = deal now (ts.take i) ∧ τ 0 = .pointer (some ⟨gt, 0, none⟩) ∧ τ 2 = .pointer (some ⟨g2, 0, none⟩) ∧ τ 3 = .pointer (some ⟨g3, 0, none⟩) ∧ τ 34 = .slice A ts.length c ∧ τ 35 = .int .i64 ts.length ∧ τ 36 = .int .i64 i ∧
          St w S [Rw o54 54 (.slice (some ⟨gl, 0, none⟩) lv.length 3) lv, Bk g3 [.int .i64 now, .int .i64 order, .slice (some ⟨gl, 0, none⟩) lv.length 3] 29, Bk g2 [.int .i64 0, .int .i64 0, .slice none 0 0] 29, Bk gt [.int .i64 now, .int .i64 order, .slice A ts.length c] 69, RT A c ts] wr) ts.length ⟨0, lv, by omega, hlvd, h0, h2, h3, rfl, rfl, rfl, H⟩ ?_
      clear H h0 h2 h3 h21 h22 hlv hlvd h3l hi3 hq hm lv i
      rintro m τ wr ih ⟨i, lv, hm, hlv, h0, h2, h3, h34, h35, h36, H⟩
      refine Run.seq (Run.regionL [0] rfl ?_)
      refine WO.v 37 rfl rfl (r_lss rfl h36 h35 rfl) ?_
      refine WO.done (Run.seq (Run.test rfl (fun hq => ?_) (fun hq => ?_)))
      · have hi : i < ts.length := by omega
        have hx := htm _ (getD_mem hi)
        obtain ⟨l, s, hl3, hs8, hpl⟩ := place_lt (now := now) hx.1
        have hsn := deal_snoc now (ts.take i) (ts.getD i z57) hl3 hs8 hpl
        have hlvl := deal_get now (ts.take i) hl3
        have hslot := level_get now (ts.take i) l hs8
        have hsle := slotF_le now (ts.take i) l s
        rw [List.length_take] at hsle
        generalize hsl : slotF now (ts.take i) l s = sl at hsn hslot hsle
        have hlev8 := level_len now (ts.take i) l
        generalize hlev : (List.range 8).map (fun s => slotF now (ts.take i) l s) = lev at hsn hlvl hslot hlev8
        rw [← hlv] at hlvl hsn
        have hl3' : lv.length = 3 := by rw [hlv]; exact deal_len _ _
        rw [← take_snoc ts i hi] at hsn
        obtain ⟨gg, rfl, hgg⟩ := H.lies p4 (by omega)
        refine Run.skip (Run.seq (Run.block (Run.seq (Run.regionL [0, 1, 2, 3] rfl ?_))))
        refine WO.v 38 rfl rfl (r_indexAddr rfl h34 h36 Try.underlying55 Try.sizeOf57 (by omega) hq (q := 0 + i * 3) (by rw [Int.toNat_natCast])) ?_
        refine WO.v 39 rfl rfl (r_loadK (vs := [.int .i64 (ts.getD i z57).f0, .int .i64 (ts.getD i z57).f1, .int .i64 (ts.getD i z57).f2]) rfl rfl Try.isAgg57 Try.sizeOf57 rfl (row_cells (H.rdC p4) i hi)) ?_
        refine WO.salloc 6 (cs := [.int .i64 0, .int .i64 0, .int .i64 0]) rfl rfl rfl Try.zeroValue57 rfl H ?_
        intro g6 w6 H6
        refine WO.sstoreK (vs := [.int .i64 (ts.getD i z57).f0, .int .i64 (ts.getD i z57).f1, .int .i64 (ts.getD i z57).f2]) rfl rfl rfl rfl rfl rfl rfl Try.sizeOf57 rfl H6 p0 rfl ?_
        intro w7 H7
        obtain ⟨A1, c1, H8⟩ := H7.takeR p1 l hlvl
        obtain ⟨A2, c2, H9⟩ := H8.takeR p0 s hslot
        generalize hxx : ts.getD i z57 = x at *
        have HA : St w S ([RwH o55 55 (.slice A1 lev.length c1) lev s [.slice A2 sl.length c2], Bk g6 [.int .i64 x.f0, .int .i64 x.f1, .int .i64 x.f2] 57, RwH o54 54 (.slice (some ⟨gl, 0, none⟩) lv.length 3) lv l [.slice A1 lev.length c1], Bk g3 [.int .i64 now, .int .i64 order, .slice (some ⟨gl, 0, none⟩) lv.length 3] 29, Bk g2 [.int .i64 0, .int .i64 0, .slice none 0 0] 29, Bk gt [.int .i64 now, .int .i64 order, .slice (some ⟨gg, 0, none⟩) ts.length c] 69, RT (some ⟨gg, 0, none⟩) c ts] ++ [Rw o57 57 (.slice A2 sl.length c2) sl]) w7 := H9.sel (.c q1 (.c q1 (.c q1 (.c q1 (.c q1 (.c q1 (.c q1 (.c q0 .n))))))))
        obtain ⟨_, _, gl1, rfl, hc1⟩ := HA.hole p0
        clear H6 H7 H8 H9 H
        refine WO.done (Run.seq (Run.quiet _ (by kernel_rfl) (by kernel_rfl) (HA.step ⟨rfl, rfl, rfl, Nat.le_refl _, fun _ _ => rfl⟩) _ rfl ?_))
        refine WQ.v 41 rfl (fun W hW => r_fieldAddr rfl rfl Try.underlying57 rfl Try.sizeOf3 (q := 1) rfl) ?_
        refine WQ.v 42 rfl (fun W hW => r_load rfl rfl Try.isAgg3 (hW.cell p1 rfl)) ?_
        refine WQ.v 43 rfl (fun W hW => r_moveP rfl h0) ?_
        refine WQ.v 44 rfl (fun W hW => r_nilCheck rfl rfl) ?_
        refine WQ.v 45 rfl (fun W hW => r_fieldAddr rfl rfl Try.underlying69 rfl Try.sizeOf3 (q := 0) rfl) ?_
        refine WQ.v 46 rfl (fun W hW => r_load rfl rfl Try.isAgg3 (hW.cell p5 rfl)) ?_
        refine WQ.c 47 rfl (fun W hW => (place_calls x.f1 now hx.1 hx.2 hn0 hn1 W).mono fun e w' h => ⟨h.1.trans (by rw [hpl]), by rw [h.2]; exact hW⟩) (fun w => r_call rfl rfl rfl Try.call65) ?_
        refine WQ.v 40 rfl (fun W hW => r_moveT rfl rfl) ?_
        refine WQ.v 48 rfl (fun W hW => r_extract rfl rfl rfl) ?_
        refine WQ.v 49 rfl (fun W hW => r_extract rfl rfl rfl) ?_
        refine WQ.v 7 rfl (fun W hW => r_assignI rfl rfl) ?_
        refine WQ.v 8 rfl (fun W hW => r_assignI rfl rfl) ?_
        refine WQ.done (fun w12 H12 => ?_)
        refine Run.mix 17 (fun j => if j = 15 then 16 else 17) (fun | 16 => [Rw o57 57 (.slice A2 sl.length c2) sl] | _ => []) (fun ii v Lp => ((fun i => Nat.beq i 15 || Nat.beq i 16) ii = false → Lp = []) ∧ match ii with
            | 0 => v = .pointer (some ⟨g3, 2, none⟩)
            | 1 => v = .slice (some ⟨gl, 0, none⟩) lv.length 3
            | 2 => v = .int .i64 (l : Int)
            | 3 => v = .pointer (some ⟨gl, 0 + l, none⟩)
            | 4 => v = .slice (some ⟨gl1, 0, none⟩) lev.length c1
            | 5 => v = .int .i64 (s : Int)
            | 6 => v = .pointer (some ⟨g3, 2, none⟩)
            | 7 => v = .slice (some ⟨gl, 0, none⟩) lv.length 3
            | 8 => v = .int .i64 (l : Int)
            | 9 => v = .pointer (some ⟨gl, 0 + l, none⟩)
            | 10 => v = .slice (some ⟨gl1, 0, none⟩) lev.length c1
            | 11 => v = .int .i64 (s : Int)
            | 12 => v = .pointer (some ⟨gl1, 0 + s, none⟩)
            | 13 => v = .slice A2 sl.length c2
            | 14 => v = .agg #[.int .i64 x.f0, .int .i64 x.f1, .int .i64 x.f2]
            | 15 => ∃ g, v = .slice (some ⟨g, 0, none⟩) [x].length [x].length ∧ Lp = [Rw o57 57 (.slice (some ⟨g, 0, none⟩) [x].length [x].length) [x]]
            | 16 => ∃ A' c' B, v = .slice A' (sl ++ [x]).length c' ∧ Lp = [Rw o57 57 (.slice A' (sl ++ [x]).length c') (sl ++ [x]), B]
            | _ => True)
          [RwH o55 55 (.slice (some ⟨gl1, 0, none⟩) lev.length c1) lev s [.slice A2 sl.length c2], Bk g6 [.int .i64 x.f0, .int .i64 x.f1, .int .i64 x.f2] 57, RwH o54 54 (.slice (some ⟨gl, 0, none⟩) lv.length 3) lv l [.slice (some ⟨gl1, 0, none⟩) lev.length c1], Bk g3 [.int .i64 now, .int .i64 order, .slice (some ⟨gl, 0, none⟩) lv.length 3] 29, Bk g2 [.int .i64 0, .int .i64 0, .slice none 0 0] 29, Bk gt [.int .i64 now, .int .i64 order, .slice (some ⟨gg, 0, none⟩) ts.length c] 69, RT (some ⟨gg, 0, none⟩) c ts] H12 (by kernel_rfl) rfl (by kernel_rfl) (by kernel_rfl) ?_ ?_
        · intro ii hii
          match ii, hii with
          | 0, _ =>
            exact ⟨_, rfl, fun τ' w' Lp Rest hfr hq HS => ⟨fun _ => opStep.val (r_fieldAddr rfl (show τ' 3 = .pointer (some ⟨g3, 0, none⟩) from (hfr 3 (by kernel_rfl)).trans h3) Try.underlying29 rfl Try.sizeOf27 (q := 2) rfl) ⟨[], ⟨fun _ => rfl, rfl⟩, HS⟩, fun h => nomatch h⟩⟩
          | 1, _ =>
            exact ⟨_, rfl, fun τ' w' Lp Rest hfr hq HS => ⟨fun _ => opStep.val (r_load rfl (show τ' 50 = .pointer (some ⟨g3, 2, none⟩) from (hq 0 (by kernel_rfl)).2) Try.isAgg27 (HS.cell p3 rfl)) ⟨[], ⟨fun _ => rfl, rfl⟩, HS⟩, fun h => nomatch h⟩⟩
          | 2, _ =>
            exact ⟨_, rfl, fun τ' w' Lp Rest hfr hq HS => ⟨fun _ => opStep.val (r_moveI rfl (show τ' 7 = .int .i64 (l : Int) from hfr 7 (by kernel_rfl))) ⟨[], ⟨fun _ => rfl, rfl⟩, HS⟩, fun h => nomatch h⟩⟩
          | 3, _ =>
            exact ⟨_, rfl, fun τ' w' Lp Rest hfr hq HS => ⟨fun _ => opStep.val (r_indexAddr rfl (show τ' 51 = .slice (some ⟨gl, 0, none⟩) lv.length 3 from (hq 1 (by kernel_rfl)).2) (show τ' 52 = .int .i64 (l : Int) from (hq 2 (by kernel_rfl)).2) Try.underlying27 Try.sizeOf54 (by omega) (by omega) (q := 0 + l) (by rw [Int.toNat_natCast, Nat.mul_one])) ⟨[], ⟨fun _ => rfl, rfl⟩, HS⟩, fun h => nomatch h⟩⟩
          | 4, _ =>
            exact ⟨_, rfl, fun τ' w' Lp Rest hfr hq HS => ⟨fun _ => opStep.val (r_load (v := .slice (some ⟨gl1, 0, none⟩) lev.length c1) rfl (show τ' 53 = .pointer (some ⟨gl, 0 + l, none⟩) from (hq 3 (by kernel_rfl)).2) Try.isAgg54 (by obtain ⟨_, _, g', e', hc⟩ := HS.hole p2; cases e'; have := hc 0 _ rfl; rw [show (0 : Nat) + l = l * 1 + 0 by omega]; exact this)) ⟨[], ⟨fun _ => rfl, rfl⟩, HS⟩, fun h => nomatch h⟩⟩
          | 5, _ =>
            exact ⟨_, rfl, fun τ' w' Lp Rest hfr hq HS => ⟨fun _ => opStep.val (r_moveI rfl (show τ' 8 = .int .i64 (s : Int) from hfr 8 (by kernel_rfl))) ⟨[], ⟨fun _ => rfl, rfl⟩, HS⟩, fun h => nomatch h⟩⟩
          | 6, _ =>
            exact ⟨_, rfl, fun τ' w' Lp Rest hfr hq HS => ⟨fun _ => opStep.val (r_fieldAddr rfl (show τ' 3 = .pointer (some ⟨g3, 0, none⟩) from (hfr 3 (by kernel_rfl)).trans h3) Try.underlying29 rfl Try.sizeOf27 (q := 2) rfl) ⟨[], ⟨fun _ => rfl, rfl⟩, HS⟩, fun h => nomatch h⟩⟩
          | 7, _ =>
            exact ⟨_, rfl, fun τ' w' Lp Rest hfr hq HS => ⟨fun _ => opStep.val (r_load rfl (show τ' 56 = .pointer (some ⟨g3, 2, none⟩) from (hq 6 (by kernel_rfl)).2) Try.isAgg27 (HS.cell p3 rfl)) ⟨[], ⟨fun _ => rfl, rfl⟩, HS⟩, fun h => nomatch h⟩⟩
          | 8, _ =>
            exact ⟨_, rfl, fun τ' w' Lp Rest hfr hq HS => ⟨fun _ => opStep.val (r_moveI rfl (show τ' 7 = .int .i64 (l : Int) from hfr 7 (by kernel_rfl))) ⟨[], ⟨fun _ => rfl, rfl⟩, HS⟩, fun h => nomatch h⟩⟩
          | 9, _ =>
            exact ⟨_, rfl, fun τ' w' Lp Rest hfr hq HS => ⟨fun _ => opStep.val (r_indexAddr rfl (show τ' 57 = .slice (some ⟨gl, 0, none⟩) lv.length 3 from (hq 7 (by kernel_rfl)).2) (show τ' 58 = .int .i64 (l : Int) from (hq 8 (by kernel_rfl)).2) Try.underlying27 Try.sizeOf54 (by omega) (by omega) (q := 0 + l) (by rw [Int.toNat_natCast, Nat.mul_one])) ⟨[], ⟨fun _ => rfl, rfl⟩, HS⟩, fun h => nomatch h⟩⟩
          | 10, _ =>
            exact ⟨_, rfl, fun τ' w' Lp Rest hfr hq HS => ⟨fun _ => opStep.val (r_load (v := .slice (some ⟨gl1, 0, none⟩) lev.length c1) rfl (show τ' 59 = .pointer (some ⟨gl, 0 + l, none⟩) from (hq 9 (by kernel_rfl)).2) Try.isAgg54 (by obtain ⟨_, _, g', e', hc⟩ := HS.hole p2; cases e'; have := hc 0 _ rfl; rw [show (0 : Nat) + l = l * 1 + 0 by omega]; exact this)) ⟨[], ⟨fun _ => rfl, rfl⟩, HS⟩, fun h => nomatch h⟩⟩
          | 11, _ =>
            exact ⟨_, rfl, fun τ' w' Lp Rest hfr hq HS => ⟨fun _ => opStep.val (r_moveI rfl (show τ' 8 = .int .i64 (s : Int) from hfr 8 (by kernel_rfl))) ⟨[], ⟨fun _ => rfl, rfl⟩, HS⟩, fun h => nomatch h⟩⟩
          | 12, _ =>
            exact ⟨_, rfl, fun τ' w' Lp Rest hfr hq HS => ⟨fun _ => opStep.val (r_indexAddr rfl (show τ' 60 = .slice (some ⟨gl1, 0, none⟩) lev.length c1 from (hq 10 (by kernel_rfl)).2) (show τ' 61 = .int .i64 (s : Int) from (hq 11 (by kernel_rfl)).2) Try.underlying54 Try.sizeOf55 (by omega) (by omega) (q := 0 + s) (by rw [Int.toNat_natCast, Nat.mul_one])) ⟨[], ⟨fun _ => rfl, rfl⟩, HS⟩, fun h => nomatch h⟩⟩
          | 13, _ =>
            exact ⟨_, rfl, fun τ' w' Lp Rest hfr hq HS => ⟨fun _ => opStep.val (r_load (v := .slice A2 sl.length c2) rfl (show τ' 62 = .pointer (some ⟨gl1, 0 + s, none⟩) from (hq 12 (by kernel_rfl)).2) Try.isAgg55 (by obtain ⟨_, _, g', e', hc⟩ := HS.hole p0; cases e'; have := hc 0 _ rfl; rw [show (0 : Nat) + s = s * 1 + 0 by omega]; exact this)) ⟨[], ⟨fun _ => rfl, rfl⟩, HS⟩, fun h => nomatch h⟩⟩
          | 14, _ =>
            exact ⟨_, rfl, fun τ' w' Lp Rest hfr hq HS => ⟨fun _ => opStep.val (r_loadK (vs := [.int .i64 x.f0, .int .i64 x.f1, .int .i64 x.f2]) rfl (show τ' 6 = .pointer (some ⟨g6, 0, none⟩) from hfr 6 (by kernel_rfl)) Try.isAgg57 Try.sizeOf57 rfl (HS.cells p1)) ⟨[], ⟨fun _ => rfl, rfl⟩, HS⟩, fun h => nomatch h⟩⟩
          | 15, _ =>
            refine ⟨_, rfl, fun τ' w' Lp Rest hfr hq HS => ⟨fun _ => ?_, fun h => nomatch h⟩⟩
            have h64 : τ' 64 = .agg #[.int .i64 x.f0, .int .i64 x.f1, .int .i64 x.f2] := (hq 14 (by kernel_rfl)).2
            exact opStep.val (r_lit rfl (lit1 x w') (bparts1 h64)) ⟨_, ⟨fun h => Bool.noConfusion h, _, rfl, rfl⟩, St.into (X := [_]) (HS.row_new (ow := o57) (e := 57) (xs := [x]) (vss := [[.int .i64 x.f0, .int .i64 x.f1, .int .i64 x.f2]]) rfl (own_one_ (flat57 (k57_mk _ x))) (show 1 ≤ maxLen by decide))⟩
          | 16, _ =>
            refine ⟨_, rfl, fun τ' w' Lp Rest hfr hq HS => ⟨fun _ => ?_, fun h => nomatch h⟩⟩
            obtain ⟨g, h65, hL⟩ : ∃ g, τ' 65 = .slice (some ⟨g, 0, none⟩) [x].length [x].length ∧ Lp 15 = [Rw o57 57 (.slice (some ⟨g, 0, none⟩) [x].length [x].length) [x]] := (hq 15 (by kernel_rfl)).2
            have h63 : τ' 63 = .slice A2 sl.length c2 := (hq 13 (by kernel_rfl)).2
            have HS2 : St w S ([RwH o55 55 (.slice (some ⟨gl1, 0, none⟩) lev.length c1) lev s [.slice A2 sl.length c2], Bk g6 [.int .i64 x.f0, .int .i64 x.f1, .int .i64 x.f2] 57, RwH o54 54 (.slice (some ⟨gl, 0, none⟩) lv.length 3) lv l [.slice (some ⟨gl1, 0, none⟩) lev.length c1], Bk g3 [.int .i64 now, .int .i64 order, .slice (some ⟨gl, 0, none⟩) lv.length 3] 29, Bk g2 [.int .i64 0, .int .i64 0, .slice none 0 0] 29, Bk gt [.int .i64 now, .int .i64 order, .slice (some ⟨gg, 0, none⟩) ts.length c] 69, RT (some ⟨gg, 0, none⟩) c ts] ++ ([Rw o57 57 (.slice A2 sl.length c2) sl] ++ (Lp 15 ++ [])) ++ Rest) w' := HS
            rw [hL] at HS2
            obtain ⟨A', c', w'', hr, H'⟩ := append_flat (P := Try.prog) (t := 55) (ty := 55) (e := 57) (c2 := [x].length) (ow := o57) Try.underlying55 info57 rfl (Nat.succ_pos 2) flat57 HS2 p7 (HS2.rdC p8) (by simp only [List.length_cons, List.length_nil]; omega) (by simp only [List.length_cons, List.length_nil]; omega)
            exact opStep.val (r_append rfl h63 h65 hr) ⟨_, ⟨fun h => Bool.noConfusion h, A', c', _, rfl, rfl⟩, H'⟩
          | n + 17, hn => exact absurd hn (by omega)
        · intro τ' w9 Lp hQ hfr HS'
          rw [fm_pick (pr := fun i => Nat.beq i 15 || Nat.beq i 16) (l := [16]) (fun j hj => (hQ j hj).1) (by kernel_rfl)] at HS'
          have HS := HS'
          obtain ⟨A3, c3, B3, h66, hL1⟩ : ∃ A' c' B, τ' 66 = .slice A' (sl ++ [x]).length c' ∧ Lp 16 = [Rw o57 57 (.slice A' (sl ++ [x]).length c') (sl ++ [x]), B] := (hQ 16 (by decide)).2
          have h60 : τ' 54 = .slice (some ⟨gl1, 0, none⟩) lev.length c1 := (hQ 4 (by decide)).2
          have h61 : τ' 55 = .int .i64 s := (hQ 5 (by decide)).2
          rw [List.flatMap_cons, hL1] at HS
          have HB : St w S (Rw o57 57 (.slice A3 (sl ++ [x]).length c3) (sl ++ [x]) :: [RwH o55 55 (.slice (some ⟨gl1, 0, none⟩) lev.length c1) lev s [.slice A2 sl.length c2], Bk g6 [.int .i64 x.f0, .int .i64 x.f1, .int .i64 x.f2] 57, RwH o54 54 (.slice (some ⟨gl, 0, none⟩) lv.length 3) lv l [.slice (some ⟨gl1, 0, none⟩) lev.length c1], Bk g3 [.int .i64 now, .int .i64 order, .slice (some ⟨gl, 0, none⟩) lv.length 3] 29, Bk g2 [.int .i64 0, .int .i64 0, .slice none 0 0] 29, Bk gt [.int .i64 now, .int .i64 order, .slice (some ⟨gg, 0, none⟩) ts.length c] 69, RT (some ⟨gg, 0, none⟩) c ts]) w9 := HS.sel (.c q7 (.c q0 (.c q0 (.c q0 (.c q0 (.c q0 (.c q0 (.c q0 .n))))))))
          have HC := HB.elR p0
          have f0 : τ' 0 = .pointer (some ⟨gt, 0, none⟩) := (hfr 0 (by kernel_rfl)).trans h0
          have f2 : τ' 2 = .pointer (some ⟨g2, 0, none⟩) := (hfr 2 (by kernel_rfl)).trans h2
          have f3 : τ' 3 = .pointer (some ⟨g3, 0, none⟩) := (hfr 3 (by kernel_rfl)).trans h3
          have f34 : τ' 34 = .slice (some ⟨gg, 0, none⟩) ts.length c := (hfr 34 (by kernel_rfl)).trans h34
          have f35 : τ' 35 = .int .i64 ts.length := (hfr 35 (by kernel_rfl)).trans h35
          have f36 : τ' 36 = .int .i64 i := (hfr 36 (by kernel_rfl)).trans h36
          clear HS HS' hQ hfr hL1 HA H12 HB h0 h2 h3 h34 h35 h36
          refine WO.v 67 rfl rfl (r_indexAddr rfl h60 h61 Try.underlying54 Try.sizeOf55 (by omega) (by omega) (q := 0 + s) (by rw [Int.toNat_natCast, Nat.mul_one])) ?_
          refine WO.sfill (j := s) rfl rfl rfl rfl h66 rfl Try.sizeOf55 rfl HC p0 (by show 0 + s = s * 1; omega) ?_
          intro wS HS
          have hls : (lev.set s (sl ++ [x])).length = lev.length := List.length_set
          have HD : St w S (Rw o55 55 (.slice (some ⟨gl1, 0, none⟩) (lev.set s (sl ++ [x])).length c1) (lev.set s (sl ++ [x])) :: [Bk g6 [.int .i64 x.f0, .int .i64 x.f1, .int .i64 x.f2] 57, RwH o54 54 (.slice (some ⟨gl, 0, none⟩) lv.length 3) lv l [.slice (some ⟨gl1, 0, none⟩) (lev.set s (sl ++ [x])).length c1], Bk g3 [.int .i64 now, .int .i64 order, .slice (some ⟨gl, 0, none⟩) lv.length 3] 29, Bk g2 [.int .i64 0, .int .i64 0, .slice none 0 0] 29, Bk gt [.int .i64 now, .int .i64 order, .slice (some ⟨gg, 0, none⟩) ts.length c] 69, RT (some ⟨gg, 0, none⟩) c ts]) wS := by rw [hls]; exact HS
          have HE := HD.backR p1
          have hll : (lv.set l (lev.set s (sl ++ [x]))).length = lv.length := List.length_set
          refine WO.done (Run.blockEnd (Run.regionL [0, 1] rfl ?_))
          refine WO.v 68 rfl rfl (r_add rfl f36 rfl (c := (i : Int) + 1) (wrap_in (by omega) (by omega))) ?_
          refine WO.v 36 rfl rfl (r_moveI rfl rfl) ?_
          exact WO.done (ih (m - 1) _ _ (by omega) ⟨i + 1, lv.set l (lev.set s (sl ++ [x])), by omega, hsn.symm, f0, f2, f3, f34, f35, rfl, by rw [hll]; exact HE.sel (.c q1 (.c q1 (.c q1 (.c q1 (.c q1 .n)))))⟩)
      · have hdl : lv = deal now ts := by rw [hlv, List.take_of_length_le (by omega)]
        subst hdl
        clear hlv
        refine Run.exit rfl (Run.seq (Run.regionL [0, 1] rfl ?_))
        refine WO.v 69 rfl rfl (r_loadK (vs := [.int .i64 now, .int .i64 order, .slice (some ⟨gl, 0, none⟩) (deal now ts).length 3]) rfl h3 Try.isAgg29 Try.sizeOf29 rfl (H.cells p1)) ?_
        refine WO.sstoreK (vs := [.int .i64 now, .int .i64 order, .slice (some ⟨gl, 0, none⟩) (deal now ts).length 3]) rfl rfl rfl h2 rfl rfl rfl Try.sizeOf29 rfl H p2 rfl ?_
        intro wS HS
        exact WO.done (Run.ret1 Try.func47 Try.results47 ⟨_, h2, run_loadVarK Try.isAgg29 Try.sizeOf29 rfl (HS.cells p2)⟩ ⟨_, ⟨_, _, rfl, rfl⟩, HS.sel (.c q0 (.c q2 (.c q2 .n)))⟩)
end Go.Proofs.Ytojpimpfpjhflaa.Wh
namespace Go.Proofs.Ytojpimpfpjhflaa.Wh
open Go.RowKit Go.Proofs.Ytojpimpfpjhflaa.Fw Go.Proofs.YtojpimpfpjhflaaW.PrintWords Go.Proofs.Ytojpimpfpjhflaa.PFnExactWheelOK
set_option linter.unusedVariables false
set_option linter.unusedSimpArgs false
theorem build29z (w : World) : (Instr.build 29 #[]).run Try.prog w = .ok (.agg #[.int .i64 0, .int .i64 0, .slice none 0 0]) w := by kernel_rfl
theorem Good.small {now order : Int} {lv : List (List (List S57))} (hG : Good now order lv) : lv.length ≤ 1048576 ∧ ∀ l, l < lv.length → (lv.getD l []).length ≤ 1048576 ∧ ∀ s, s < (lv.getD l []).length → ((lv.getD l []).getD s []).length ≤ 1048576 := by
  have h3 := hG.three
  refine ⟨by omega, fun l hl => ⟨by rw [hG.len (by omega)]; omega, fun s hs => ?_⟩⟩
  have := (sub_slot (lv := lv) l s).length_le
  have := hG.few
  omega
theorem getD_mem3 {now order : Int} {lv : List (List (List S57))} (hG : Good now order lv) {l : Nat} (hl : l < 3) : lv[l]? = some (lv.getD l []) := getElem?_getD [] (by rw [hG.three]; exact hl)
theorem getD_mem8 {now order : Int} {lv : List (List (List S57))} (hG : Good now order lv) {l s : Nat} (hl : l < 3) (hs : s < 8) : (lv.getD l [])[s]? = some ((lv.getD l []).getD s []) := getElem?_getD [] (by rw [hG.len hl]; exact hs)
theorem build29o (a b : Int) (w : World) : (Instr.build 29 #[(0, .int .i64 a), (1, .int .i64 b)]).run Try.prog w = .ok (.agg #[.int .i64 a, .int .i64 b, .slice none 0 0]) w := by kernel_rfl
theorem lit54 (w : World) : (Instr.buildSlice 54 0 #[]).run Try.prog w = .ok (.slice (some ⟨w.heap.size, 0, none⟩) ([] : List (List S57)).length ([] : List (List S57)).length) (w.alloc (.cells ([] : List (List Value)).flatten.toArray 55)) := by kernel_rfl
theorem lit54one (A : Option Addr) (m c : Nat) (w : World) : (Instr.buildSlice 54 1 #[(0, .slice A m c)]).run Try.prog w = .ok (.slice (some ⟨w.heap.size, 0, none⟩) 1 1) (w.alloc (.cells ([.slice A m c] : List Value).toArray 55)) := by kernel_rfl
theorem lit27one (A : Option Addr) (m c : Nat) (w : World) : (Instr.buildSlice 27 1 #[(0, .slice A m c)]).run Try.prog w = .ok (.slice (some ⟨w.heap.size, 0, none⟩) 1 1) (w.alloc (.cells ([.slice A m c] : List Value).toArray 54)) := by kernel_rfl
theorem take_snocL {α : Type} (l : List (List α)) (i : Nat) (h : i < l.length) : l.take (i + 1) = l.take i ++ [l.getD i []] := by
  rw [List.take_add_one, List.getElem?_eq_getElem h, List.getD_eq_getElem?_getD, List.getElem?_eq_getElem h]
  rfl
set_option maxHeartbeats 1000000 in
theorem own_tri (now order : Int) (A : Option Addr) (c : Nat) (lv : List (List (List S57))) (w : World) (hr : Kd.C (Kd.slice 55 (Kd.slice 57 k57)) w A lv.length lv) (h3 : lv.length ≤ 1048576) (h8 : ∀ l, l < lv.length → (lv.getD l []).length ≤ 1048576 ∧ ∀ s, s < (lv.getD l []).length → ((lv.getD l []).getD s []).length ≤ 1048576) :
    Tri Try.prog 52 #[.agg #[.int .i64 now, .int .i64 order, .slice A lv.length c]] w [] fun e LQ => ∃ A' c', e = .returned (.agg #[.int .i64 now, .int .i64 order, .slice A' lv.length c']) ∧ LQ = [Rw o54 54 (.slice A' lv.length c') lv] := by
  refine tri_of_run0 (fn := Try.f52) (n := 50) Try.func52 rfl Try.ntmps52 (Nat.le_of_ble_eq_true rfl) fun H => ?_
  refine Run.seq (Run.regionL [0, 1] rfl ?_)
  refine WO.sbox 1 (cs := [.int .i64 now, .int .i64 order, .slice A lv.length c]) rfl rfl rfl rfl H ?_
  intro g1 w1 H1
  refine WO.salloc 2 (cs := [.int .i64 0, .int .i64 0, .slice none 0 0]) rfl rfl rfl Try.zeroValue29 rfl H1 ?_
  intro g2 w2 H2
  refine WO.done (Run.seq (Run.regionL [0, 1, 2, 3, 4, 5, 6] rfl ?_))
  refine WO.v 7 rfl rfl (r_fieldAddr rfl rfl Try.underlying29 rfl Try.sizeOf3 (q := 0 + 0) rfl) ?_
  refine WO.v 8 rfl rfl (r_load rfl rfl Try.isAgg3 (H2.cell p1 rfl)) ?_
  refine WO.v 9 rfl rfl (r_fieldAddr rfl rfl Try.underlying29 rfl Try.sizeOf3 (q := 0 + 1) rfl) ?_
  refine WO.v 10 rfl rfl (r_load rfl rfl Try.isAgg3 (H2.cell p1 rfl)) ?_
  refine WO.v 11 rfl rfl (r_build rfl (build29o now order _) rfl) ?_
  refine WO.salloc 3 (cs := [.int .i64 0, .int .i64 0, .slice none 0 0]) rfl rfl rfl Try.zeroValue29 rfl H2 ?_
  intro g3 w3 H3
  refine WO.sstoreK (vs := [.int .i64 now, .int .i64 order, .slice none 0 0]) rfl rfl rfl rfl rfl rfl rfl Try.sizeOf29 rfl H3 p0 rfl ?_
  intro w4 H4
  refine WO.done (Run.seq (Run.seq (Run.regionL [0] rfl ?_)))
  refine WO.v 4 rfl rfl (r_assignI rfl rfl) ?_
  refine WO.done (Run.block ?_)
  refine Run.loopInv (fun m τ wr => ∃ (j : Nat) (AO : Option Addr) (co : Nat) (dn : List (List (List S57))), j + m = lv.length ∧ dn = lv.take j ∧ τ 1 = .pointer (some ⟨g1, 0, none⟩) ∧ τ 2 = .pointer (some ⟨g2, 0, none⟩) ∧ τ 3 = .pointer (some ⟨g3, 0, none⟩) ∧ τ 4 = .int .i64 j ∧
      St w Em [Rw o54 54 (.slice AO dn.length co) dn, Bk g3 [.int .i64 now, .int .i64 order, .slice AO dn.length co] 29, Bk g2 [.int .i64 0, .int .i64 0, .slice none 0 0] 29, Bk g1 [.int .i64 now, .int .i64 order, .slice A lv.length c] 29] wr) lv.length ⟨0, none, 0, [], by omega, rfl, rfl, rfl, rfl, rfl, H4.row_nil o54 54⟩ ?_
  clear H H1 H2 H3 H4
  rintro m τ wr ih ⟨j, AO, co, dn, hm, hdn, h1, h2, h3', h4, H⟩
  refine Run.seq (Run.seq (Run.regionL [0, 1, 2, 3, 4] rfl ?_))
  refine WO.v 12 rfl rfl (r_moveI rfl h4) ?_
  refine WO.v 13 rfl rfl (r_fieldAddr rfl h1 Try.underlying29 rfl Try.sizeOf27 (q := 0 + 2) rfl) ?_
  refine WO.v 14 rfl rfl (r_load rfl rfl Try.isAgg27 (H.cell p3 rfl)) ?_
  refine WO.v 15 rfl rfl (r_len (e := 54) rfl rfl Try.underlying27) ?_
  refine WO.v 16 rfl rfl (r_lss rfl rfl rfl rfl) ?_
  refine WO.done (Run.test rfl (fun hq => ?_) (fun hq => ?_))
  · have hj : j < lv.length := by omega
    have hdl : dn.length = j := by rw [hdn, List.length_take]; omega
    obtain ⟨h8a, h8b⟩ := h8 j hj
    obtain ⟨b1, o1, A1, c1, rfl, hb1, hc1, hcc1, hr1⟩ := slice_at hr j hj
    refine Run.skip (Run.seq (Run.block (Run.seq (Run.regionL [0, 1] rfl ?_))))
    refine WO.slit 19 (ow := o55) [] [] rfl rfl rfl rfl lit54 rfl own_nil_ (by decide) H ?_
    intro g5 w5 H5
    refine WO.v 5 rfl rfl (r_assignL rfl rfl) ?_
    refine WO.done (Run.seq (Run.seq (Run.regionL [0] rfl ?_)))
    refine WO.v 6 rfl rfl (r_assignI rfl rfl) ?_
    refine WO.done (Run.block ?_)
    refine Run.loopInv (fun m τ wr => ∃ (s : Nat) (AL : Option Addr) (cl : Nat) (lvl : List (List S57)), s + m = (lv.getD j []).length ∧ lvl = (lv.getD j []).take s ∧ τ 1 = .pointer (some ⟨g1, 0, none⟩) ∧ τ 2 = .pointer (some ⟨g2, 0, none⟩) ∧ τ 3 = .pointer (some ⟨g3, 0, none⟩) ∧ τ 4 = .int .i64 j ∧ τ 5 = .slice AL lvl.length cl ∧ τ 6 = .int .i64 s ∧
        St w Em [Rw o55 55 (.slice AL lvl.length cl) lvl, Rw o54 54 (.slice AO dn.length co) dn, Bk g3 [.int .i64 now, .int .i64 order, .slice AO dn.length co] 29, Bk g2 [.int .i64 0, .int .i64 0, .slice none 0 0] 29, Bk g1 [.int .i64 now, .int .i64 order, .slice (some ⟨b1, o1, none⟩) lv.length c] 29] wr) (lv.getD j []).length ⟨0, _, _, [], by omega, rfl, h1, h2, h3', h4, rfl, rfl, H5⟩ ?_
    clear H H5 h1 h2 h3' h4
    rintro m2 τ wr ih2 ⟨s, AL, cl, lvl, hm2, hlvl, h1, h2, h3', h4, h5, h6, H⟩
    refine Run.seq (Run.seq (Run.regionL [0, 1, 2, 3, 4, 5, 6, 7] rfl ?_))
    refine WO.v 20 rfl rfl (r_moveI rfl h6) ?_
    refine WO.v 21 rfl rfl (r_fieldAddr rfl h1 Try.underlying29 rfl Try.sizeOf27 (q := 0 + 2) rfl) ?_
    refine WO.v 22 rfl rfl (r_load rfl rfl Try.isAgg27 (H.cell p4 rfl)) ?_
    refine WO.v 23 rfl rfl (r_moveI rfl h4) ?_
    refine WO.v 24 rfl rfl (r_indexAddr rfl rfl rfl Try.underlying27 Try.sizeOf54 (by omega) (by omega) (q := o1 + j) (by rw [Int.toNat_natCast, Nat.mul_one])) ?_
    refine WO.v 25 rfl rfl (r_load rfl rfl Try.isAgg54 ((H.below.cell (p := ⟨b1, o1 + j, none⟩) hb1).trans hc1)) ?_
    refine WO.v 26 rfl rfl (r_len (e := 55) rfl rfl Try.underlying54) ?_
    refine WO.v 27 rfl rfl (r_lss rfl rfl rfl rfl) ?_
    refine WO.done (Run.test rfl (fun hq2 => ?_) (fun hq2 => ?_))
    · have hs : s < (lv.getD j []).length := by omega
      have hll : lvl.length = s := by rw [hlvl, List.length_take]; omega
      have hsl := h8b s hs
      obtain ⟨b2, o2, A2, c2, rfl, hb2, hc2, hcc2, hr2⟩ := slice_at hr1 s hs
      refine Run.skip (Run.seq (Run.block (Run.regionL [0, 1, 2, 3, 4, 5, 6, 7, 8, 9, 10, 11, 12, 13] rfl ?_)))
      refine WO.v 30 rfl rfl (r_moveL rfl h5) ?_
      refine WO.slit 31 (ow := o57) [] [] rfl rfl rfl rfl lit55 rfl own_nil_ (by decide) H ?_
      intro g7 w7 H7
      refine WO.v 32 rfl rfl (r_fieldAddr rfl h1 Try.underlying29 rfl Try.sizeOf27 (q := 0 + 2) rfl) ?_
      refine WO.v 33 rfl rfl (r_load rfl rfl Try.isAgg27 (H7.cell p5 rfl)) ?_
      refine WO.v 34 rfl rfl (r_moveI rfl h4) ?_
      refine WO.v 35 rfl rfl (r_indexAddr rfl rfl rfl Try.underlying27 Try.sizeOf54 (by omega) (by omega) (q := o1 + j) (by rw [Int.toNat_natCast, Nat.mul_one])) ?_
      refine WO.v 36 rfl rfl (r_load rfl rfl Try.isAgg54 ((H7.below.cell (p := ⟨b1, o1 + j, none⟩) hb1).trans hc1)) ?_
      refine WO.v 37 rfl rfl (r_moveI rfl h6) ?_
      refine WO.v 38 rfl rfl (r_indexAddr rfl rfl rfl Try.underlying54 Try.sizeOf55 (by omega) (by omega) (q := o2 + s) (by rw [Int.toNat_natCast, Nat.mul_one])) ?_
      refine WO.v 39 rfl rfl (r_load rfl rfl Try.isAgg55 ((H7.below.cell (p := ⟨b2, o2 + s, none⟩) hb2).trans hc2)) ?_
      refine WO.sappend 40 rfl rfl rfl Try.underlying55 info57 rfl (Nat.succ_pos 2) rfl rfl flat57 H7 p0 (Kd.C_below hr2 H7.below) (by simp only [List.length_nil]; omega) (by simp only [List.length_nil]; omega) ?_
      intro A3 c3 w8 H8
      refine WO.sblit 41 (pv := #[(0, .slice A3 ([] ++ (lv.getD j []).getD s []).length c3)]) [.slice A3 ([] ++ (lv.getD j []).getD s []).length c3] rfl rfl rfl rfl (fun w => lit54one A3 _ c3 w) H8 ?_
      intro g9 w9 H9
      have HA := (H9.elR p1).sel (.c q1 (.c q1 (.c q1 (.c q1 (.c q1 (.c q1 (.c q0 .n)))))))
      refine WO.sappend1 42 rfl rfl rfl Try.underlying54 info55 rfl (Nat.succ_pos _) rfl rfl HA p0 (HA.cells p6) (by omega) (by omega) ?_
      intro A4 c4 w10 H10
      refine WO.v 5 rfl rfl (r_assignL rfl rfl) ?_
      refine WO.done (Run.blockEnd (Run.regionL [0, 1, 2] rfl ?_))
      refine WO.v 28 rfl rfl (r_moveI rfl h6) ?_
      refine WO.v 29 rfl rfl (r_add rfl rfl rfl (c := (s : Int) + 1) (wrap_in (by omega) (by omega))) ?_
      refine WO.v 6 rfl rfl (r_assignI rfl rfl) ?_
      exact WO.done (ih2 (m2 - 1) _ _ (by omega) ⟨s + 1, A4, c4, _, by omega, by rw [hlvl, take_snocL _ s hs]; rfl, h1, h2, h3', h4, rfl, rfl, H10.sel (.c q0 (.c q0 (.c q0 (.c q0 (.c q0 .n)))))⟩)
    · have hle : lvl = lv.getD j [] := by rw [hlvl, List.take_of_length_le (by omega)]
      subst hle
      refine Run.exit rfl (Run.regionL [0, 1, 2, 3, 4, 5, 6] rfl ?_)
      refine WO.v 43 rfl rfl (r_fieldAddr rfl h3' Try.underlying29 rfl Try.sizeOf27 (q := 0 + 2) rfl) ?_
      refine WO.v 44 rfl rfl (r_load rfl rfl Try.isAgg27 (H.cell p2 rfl)) ?_
      refine WO.v 45 rfl rfl (r_moveL rfl h5) ?_
      refine WO.sblit 46 (pv := #[(0, .slice AL (lv.getD j []).length cl)]) [.slice AL (lv.getD j []).length cl] rfl rfl rfl rfl (fun w => lit27one AL _ cl w) H ?_
      intro g9 w9 H9
      have HA := (H9.elR p1).sel (.c q1 (.c q1 (.c q1 (.c q1 (.c q1 (.c q0 .n))))))
      refine WO.sappend1 47 rfl rfl rfl Try.underlying27 info54 rfl (Nat.succ_pos _) rfl rfl HA p0 (HA.cells p5) (by omega) (by omega) ?_
      intro A4 c4 w10 H10
      refine WO.v 48 rfl rfl (r_fieldAddr rfl h3' Try.underlying29 rfl Try.sizeOf27 (q := 0 + 2) rfl) ?_
      refine WO.sstore rfl rfl rfl rfl rfl rfl Try.sizeOf27 H10 p1 (.s (.s .z)) ?_
      intro w11 H11
      refine WO.done (Run.blockEnd (Run.regionL [0, 1, 2] rfl ?_))
      refine WO.v 17 rfl rfl (r_moveI rfl h4) ?_
      refine WO.v 18 rfl rfl (r_add rfl rfl rfl (c := (j : Int) + 1) (wrap_in (by omega) (by omega))) ?_
      refine WO.v 4 rfl rfl (r_assignI rfl rfl) ?_
      exact WO.done (ih (m - 1) _ _ (by omega) ⟨j + 1, A4, c4, _, by omega, by rw [hdn, take_snocL lv j hj], h1, h2, h3', rfl, H11.sel (.c q0 (.c q0 (.c q0 (.c q0 .n))))⟩)
  · have hle : dn = lv := by rw [hdn, List.take_of_length_le (by omega)]
    subst hle
    refine Run.exit rfl (Run.seq (Run.regionL [0, 1] rfl ?_))
    refine WO.v 49 rfl rfl (r_loadK (vs := [.int .i64 now, .int .i64 order, .slice AO dn.length co]) rfl h3' Try.isAgg29 Try.sizeOf29 rfl (H.cells p1)) ?_
    refine WO.sstoreK (vs := [.int .i64 now, .int .i64 order, .slice AO dn.length co]) rfl rfl rfl h2 rfl rfl rfl Try.sizeOf29 rfl H p2 rfl ?_
    intro wS HS
    exact WO.done (Run.ret1 Try.func52 Try.results52 ⟨_, h2, run_loadVarK Try.isAgg29 Try.sizeOf29 rfl (HS.cells p2)⟩ ⟨_, ⟨AO, co, rfl, rfl⟩, HS.sel (.c q0 .n)⟩)
end Go.Proofs.Ytojpimpfpjhflaa.Wh
namespace Go.Proofs.Ytojpimpfpjhflaa.Wh
open Go.RowKit Go.Proofs.Ytojpimpfpjhflaa.Fw Go.Proofs.YtojpimpfpjhflaaW.PrintWords Go.Proofs.Ytojpimpfpjhflaa.PFnExactWheelOK
set_option linter.unusedVariables false
set_option linter.unusedSimpArgs false
/-- How many marks a wheel's timers take. -/
def cnW (lv : List (List (List S57))) : Nat := sumOf (sumOf (sumOf cnT)) lv
def mkW (lv : List (List (List S57))) (k : Int) : List (List (List S57)) := mkL (mkL (mkL mkT cnT) (sumOf cnT)) (sumOf (sumOf cnT)) lv k
theorem mkW_len (lv : List (List (List S57))) (k : Int) : (mkW lv k).length = lv.length := mkL_length _ _ _ _
theorem cnT_sum : ∀ l : List S57, sumOf cnT l = 3 * l.length
  | [] => rfl
  | x :: l => by simp only [sumOf, cnT, cnT_sum l, List.length_cons]; omega
theorem cnW_eq (lv : List (List (List S57))) : cnW lv = 3 * lv.flatten.flatten.length := by
  have h2 : ∀ l : List (List S57), sumOf (sumOf cnT) l = 3 * l.flatten.length := by
    intro l
    induction l with
    | nil => rfl
    | cons x l ih => simp only [sumOf, ih, cnT_sum, List.flatten_cons, List.length_append]; omega
  unfold cnW
  induction lv with
  | nil => rfl
  | cons x lv ih => simp only [sumOf, ih, h2, List.flatten_cons, List.flatten_append, List.length_append]; omega
theorem markWheel_tri (a b : Int) (A : Option Addr) (c : Nat) (lv : List (List (List S57))) (k : Int) (w : World) (h0 : 0 ≤ k) (hk : k + cnW lv ≤ 4611686018427387904) :
    Tri Try.prog 23 #[.agg #[.int .i64 a, .int .i64 b, .slice A lv.length c], .int .i64 k] w [Rw o54 54 (.slice A lv.length c) lv] fun e LQ => e = .returned (.int .i64 (k + cnW lv)) ∧ LQ = [Rw o54 54 (.slice A lv.length c) (mkW lv k)] := by
  refine tri_of_run (fn := Try.f23) (n := 10) Try.func23 rfl Try.ntmps23 (Nat.le_of_ble_eq_true rfl) fun S H => ?_
  refine Run.seq (Run.regionL [0, 1] rfl ?_)
  refine WO.sbox 2 (cs := [.int .i64 a, .int .i64 b, .slice A lv.length c]) rfl rfl rfl rfl H ?_
  intro g2 w1 H1
  refine WO.v 4 rfl rfl (r_assignI rfl rfl) ?_
  refine WO.done (Run.seq (Run.regionL [0, 1, 2, 3, 4] rfl ?_))
  refine WO.v 5 rfl rfl (r_fieldAddr rfl rfl Try.underlying29 rfl Try.sizeOf27 (q := 0 + 2) rfl) ?_
  refine WO.v 6 rfl rfl (r_load rfl rfl Try.isAgg27 (H1.cell p0 rfl)) ?_
  refine WO.v 7 rfl rfl (r_moveI rfl rfl) ?_
  refine WO.scall 8 rfl rfl Try.call53 H1 (.c q1 .n) (markTimerSSS_tri A c lv k w1 h0 hk) rfl rfl ?_
  rintro e LQ w2 ⟨rfl, rfl⟩ H2
  refine ⟨_, rfl, ?_⟩
  refine WO.v 1 rfl rfl (r_assignI rfl rfl) ?_
  refine WO.done (Run.seq (Run.regionL [0, 1] rfl ?_))
  refine WO.v 9 rfl rfl (r_moveI rfl rfl) ?_
  refine WO.v 4 rfl rfl (r_assignI rfl rfl) ?_
  exact WO.done (Run.ret1 (v1 := .int .i64 (k + cnW lv)) Try.func23 Try.results23 rfl ⟨_, ⟨rfl, rfl⟩, H2.sel (.c q0 .n)⟩)
theorem heldWheel_calls (a b : Int) (A : Option Addr) (c : Nat) (lv : List (List (List S57))) (k : Int) (w : World) (h0 : 0 ≤ k) (hk : k + cnW lv ≤ 4611686018427387904) (hr : Kd.C (Kd.slice 55 (Kd.slice 57 k57)) w A lv.length (mkW lv k)) :
    Calls Try.prog 24 #[.agg #[.int .i64 a, .int .i64 b, .slice A lv.length c], .int .i64 k] w fun e w' => e = .returned (.int .i64 (k + cnW lv)) ∧ Below w.heap.size w w' := by
  have H := St.nil w
  refine calls_of_run (fn := Try.f24) (n := 12) Try.func24 rfl Try.ntmps24 (Nat.le_of_ble_eq_true rfl) ?_
  refine Run.seq (Run.regionL [0, 1] rfl ?_)
  refine WO.sbox 2 (cs := [.int .i64 a, .int .i64 b, .slice A lv.length c]) rfl rfl rfl rfl H ?_
  intro g2 w1 H1
  refine WO.v 4 rfl rfl (r_assignI rfl rfl) ?_
  refine WO.done (Run.seq (Run.regionL [0, 1, 2, 3, 4] rfl ?_))
  refine WO.v 5 rfl rfl (r_fieldAddr rfl rfl Try.underlying29 rfl Try.sizeOf27 (q := 0 + 2) rfl) ?_
  refine WO.v 6 rfl rfl (r_load rfl rfl Try.isAgg27 (H1.cell p0 rfl)) ?_
  refine WO.v 7 rfl rfl (r_moveI rfl rfl) ?_
  refine WO.call_ 8 rfl rfl Try.call54 (heldTimerSSS_calls A c lv k w1 h0 hk (Kd.C_below hr H1.below)) rfl rfl ?_
  rintro e w2 ⟨rfl, hb2⟩
  refine ⟨_, rfl, ?_⟩
  have H2 := H1.step hb2
  refine WO.v 1 rfl rfl (r_assignI rfl rfl) ?_
  refine WO.done (Run.seq (Run.seq (Run.regionL [0, 1] rfl ?_)))
  refine WO.v 9 rfl rfl (r_moveI rfl rfl) ?_
  refine WO.v 10 rfl rfl (r_lss rfl rfl rfl (decide_eq_false (show ¬ (k + sumOf (sumOf (sumOf cnT)) lv < 0) by omega))) ?_
  refine WO.done (Run.condF rfl (Run.skip (Run.seq (Run.regionL [0, 1] rfl ?_))))
  refine WO.v 11 rfl rfl (r_moveI rfl rfl) ?_
  refine WO.v 4 rfl rfl (r_assignI rfl rfl) ?_
  exact WO.done (Run.ret1 (v1 := .int .i64 (k + cnW lv)) Try.func24 Try.results24 rfl ⟨rfl, H2.below⟩)
end Go.Proofs.Ytojpimpfpjhflaa.Wh
