/- The wheel: to.. and eq.., by shape. Printed by shapes.py. -/
import Derived.Test.YtojpimpfpjhflaaUwp
import Derived.Test.YtojpimpfpjhflaaShp
namespace Go.Proofs.Ytojpimpfpjhflaa.Wh
open Go.RowKit Go.Proofs.Ytojpimpfpjhflaa.Fw Go.Proofs.YtojpimpfpjhflaaW.PrintWords Go.Proofs.Ytojpimpfpjhflaa.PFnExactWheelOK
set_option linter.unusedVariables false
set_option linter.unusedSimpArgs false
abbrev o55 : Ow (Kd.slice 57 k57) := Ow.slice 57 o57
abbrev o54 : Ow (Kd.slice 55 (Kd.slice 57 k57)) := Ow.slice 55 o55
def cv (x : S111) : S57 := ⟨x.f0, x.f1, x.f2⟩
def szS (l : List S111) : Nat := l.length + sumOf (fun _ => 0) l
def szSS (l : List (List S111)) : Nat := l.length + sumOf szS l
def szSSS (l : List (List (List S111))) : Nat := l.length + sumOf szSS l

theorem toTimer_tri (x : S111) (w : World) : Tri Try.prog 79 #[.agg #[.int .i64 x.f0, .int .i64 x.f1, .int .i64 x.f2]] w [] fun e LQ => e = .returned (.agg #[.int .i64 x.f0, .int .i64 x.f1, .int .i64 x.f2]) ∧ LQ = [] := by
  refine tri_of_run0 (fn := Try.f79) (n := 14) Try.func79 rfl Try.ntmps79 (Nat.le_of_ble_eq_true rfl) fun H => ?_
  refine Run.seq (Run.regionL [0, 1] rfl ?_)
  refine WO.sbox 1 (cs := [.int .i64 x.f0, .int .i64 x.f1, .int .i64 x.f2]) rfl rfl rfl rfl H ?_
  intro g1 w1 H1
  refine WO.salloc 2 (cs := [.int .i64 0, .int .i64 0, .int .i64 0]) rfl rfl rfl Try.zeroValue57 rfl H1 ?_
  intro g2 w2 H2
  refine WO.done (Run.seq (Run.regionL [0] rfl ?_))
  refine WO.salloc 3 (cs := [.int .i64 0, .int .i64 0, .int .i64 0]) rfl rfl rfl Try.zeroValue57 rfl H2 ?_
  intro g3 w3 H3
  refine WO.done (Run.seq (Run.regionL [0, 1, 2, 3] rfl ?_))
  refine WO.v 4 rfl rfl (r_fieldAddr rfl rfl Try.underlying111 rfl Try.sizeOf3 (q := 0) rfl) ?_
  refine WO.v 5 rfl rfl (r_load rfl rfl Try.isAgg3 (H3.cell p2 rfl)) ?_
  refine WO.v 6 rfl rfl (r_fieldAddr rfl rfl Try.underlying57 rfl Try.sizeOf3 (q := 0) rfl) ?_
  refine WO.sstore rfl rfl rfl rfl rfl rfl Try.sizeOf3 H3 p0 .z ?_
  intro w4 H4
  refine WO.done (Run.seq (Run.regionL [0, 1, 2, 3] rfl ?_))
  refine WO.v 7 rfl rfl (r_fieldAddr rfl rfl Try.underlying111 rfl Try.sizeOf3 (q := 1) rfl) ?_
  refine WO.v 8 rfl rfl (r_load rfl rfl Try.isAgg3 (H4.cell p2 rfl)) ?_
  refine WO.v 9 rfl rfl (r_fieldAddr rfl rfl Try.underlying57 rfl Try.sizeOf3 (q := 1) rfl) ?_
  refine WO.sstore rfl rfl rfl rfl rfl rfl Try.sizeOf3 H4 p0 (.s .z) ?_
  intro w5 H5
  refine WO.done (Run.seq (Run.regionL [0, 1, 2, 3] rfl ?_))
  refine WO.v 10 rfl rfl (r_fieldAddr rfl rfl Try.underlying111 rfl Try.sizeOf3 (q := 2) rfl) ?_
  refine WO.v 11 rfl rfl (r_load rfl rfl Try.isAgg3 (H5.cell p2 rfl)) ?_
  refine WO.v 12 rfl rfl (r_fieldAddr rfl rfl Try.underlying57 rfl Try.sizeOf3 (q := 2) rfl) ?_
  refine WO.sstore rfl rfl rfl rfl rfl rfl Try.sizeOf3 H5 p0 (.s (.s .z)) ?_
  intro w6 H6
  refine WO.done (Run.seq (Run.regionL [0, 1] rfl ?_))
  refine WO.v 13 rfl rfl (r_loadK (vs := [.int .i64 x.f0, .int .i64 x.f1, .int .i64 x.f2]) rfl rfl Try.isAgg57 Try.sizeOf57 rfl (H6.cells p0)) ?_
  refine WO.sstoreK (vs := [.int .i64 x.f0, .int .i64 x.f1, .int .i64 x.f2]) rfl rfl rfl rfl rfl rfl rfl Try.sizeOf57 rfl H6 p1 rfl ?_
  intro wS HS
  exact WO.done (Run.ret1 Try.func79 Try.results79 ⟨_, rfl, run_loadVarK Try.isAgg57 Try.sizeOf57 rfl (HS.cells p1)⟩ ⟨[], ⟨rfl, rfl⟩, HS.sel .n⟩)
theorem toTimerS_tri (A : Option Addr) (c : Nat) (l : List S111) (w : World) (hr : Kd.C k111 w A l.length l) (hs : szS l ≤ 1048576) :
    Tri Try.prog 70 #[.slice A l.length c] w [] fun e LQ => ∃ A' c', e = .returned (.slice A' (l.map cv).length c') ∧ LQ = [Rw o57 57 (.slice A' (l.map cv).length c') (l.map cv)] := by
  have hl : l.length ≤ 1048576 := by unfold szS at hs; omega
  refine tri_of_run0 (fn := Try.f70) (n := 23) Try.func70 rfl Try.ntmps70 (Nat.le_of_ble_eq_true rfl) fun H => ?_
  refine Run.seq (Run.regionL [0] rfl ?_)
  refine WO.v 2 rfl rfl (r_assignL rfl rfl) ?_
  refine WO.done (Run.seq (Run.regionL [0, 1, 2, 3] rfl ?_))
  refine WO.v 5 rfl rfl (r_moveL rfl rfl) ?_
  refine WO.v 6 rfl rfl (r_len (e := 111) rfl rfl Try.underlying100) ?_
  refine WO.smake 7 (ow := o57) z57 rfl rfl rfl rfl rfl Try.underlying55 info57 rfl (Nat.succ_pos _) (Nat.succ_pos _) (fun _ => flat57 (k57_mk _ z57)) H (by omega) ?_
  intro g w1 H1
  refine WO.v 3 rfl rfl (r_assignL rfl rfl) ?_
  refine WO.done (Run.seq (Run.seq (Run.regionL [0] rfl ?_)))
  refine WO.v 4 rfl rfl (r_assignI rfl rfl) ?_
  refine WO.done (Run.block ?_)
  refine Run.loopInv (fun m τ wr => ∃ (i : Nat) (xs : List S57), i + m = l.length ∧ xs.length = l.length ∧ (∀ j, j < i → xs[j]? = some (cv (l.getD j z111))) ∧ τ 0 = .slice A l.length c ∧ τ 3 = .slice (some ⟨g, 0, none⟩) xs.length l.length ∧ τ 4 = .int .i64 i ∧
      St w Em [Rw o57 57 (.slice (some ⟨g, 0, none⟩) xs.length l.length) xs] wr) l.length ⟨0, List.replicate l.length z57, by omega, by simp, fun j hj => absurd hj (Nat.not_lt_zero _), rfl, rfl, rfl, H1⟩ ?_
  rintro m τ wr ih ⟨i, xs, hm, hx, hxi, h0, h3, h4, H⟩
  refine Run.seq (Run.seq (Run.regionL [0, 1, 2, 3] rfl ?_))
  refine WO.v 8 rfl rfl (r_moveI rfl h4) ?_
  refine WO.v 9 rfl rfl (r_moveL rfl h0) ?_
  refine WO.v 10 rfl rfl (r_len (e := 111) rfl rfl Try.underlying100) ?_
  refine WO.v 11 rfl rfl (r_lss rfl rfl rfl rfl) ?_
  refine WO.done (Run.test rfl (fun hq => ?_) (fun hq => ?_))
  · have hi : i < l.length := by omega
    have hsi := sumOf_le (fun _ => 0) l z111 i hi
    obtain ⟨b, off, cs, rfl, hb, hcl, hk, hc⟩ := row_at (Kd.C_below hr H.below) z111 i hi (Nat.succ_pos _)
    obtain rfl := k111_open hk
    refine Run.skip (Run.seq (Run.block (Run.regionL [0, 1, 2, 3, 4, 5, 6, 7, 8] rfl ?_)))
    refine WO.v 14 rfl rfl (r_moveL rfl h3) ?_
    refine WO.v 15 rfl rfl (r_moveI rfl h4) ?_
    refine WO.v 16 rfl rfl (r_moveL rfl h0) ?_
    refine WO.v 17 rfl rfl (r_moveI rfl h4) ?_
    refine WO.v 18 rfl rfl (r_indexAddr rfl rfl rfl Try.underlying100 Try.sizeOf111 (by omega) hq (q := off + i * 3) (by rw [Int.toNat_natCast])) ?_
    refine WO.v 19 rfl rfl (r_loadK (vs := [.int .i64 (l.getD i z111).f0, .int .i64 (l.getD i z111).f1, .int .i64 (l.getD i z111).f2]) rfl rfl Try.isAgg111 Try.sizeOf111 rfl hc) ?_
    refine WO.scall 20 rfl rfl Try.call79 H .n (toTimer_tri (l.getD i z111) wr) rfl rfl ?_
    rintro e LQ w2 ⟨rfl, rfl⟩ H2
    refine ⟨_, rfl, ?_⟩
    have H3 := H2.elF flat57 (k57_mk w2 (cv (l.getD i z111)))
    refine WO.v 21 rfl rfl (r_indexAddr rfl rfl rfl Try.underlying55 Try.sizeOf57 (by omega) (by omega) (q := 0 + i * 3) (by rw [Int.toNat_natCast])) ?_
    refine WO.sput rfl rfl rfl rfl rfl rfl Try.sizeOf57 rfl H3 p0 (j := i) (by omega) (Nat.zero_add _) ?_
    intro w3 H4
    refine WO.done (Run.blockEnd (Run.regionL [0, 1, 2] rfl ?_))
    refine WO.v 12 rfl rfl (r_moveI rfl h4) ?_
    refine WO.v 13 rfl rfl (r_add rfl rfl rfl (c := (i : Int) + 1) (wrap_in (by omega) (by omega))) ?_
    refine WO.v 4 rfl rfl (r_assignI rfl rfl) ?_
    exact WO.done (ih (m - 1) _ _ (by omega) ⟨i + 1, xs.set i (cv (l.getD i z111)), by omega, by rw [List.length_set]; exact hx, set_at (f := fun j => cv (l.getD j z111)) (by omega) rfl hxi, h0, by rw [List.length_set]; exact h3, rfl, by rw [List.length_set]; exact H4⟩)
  · obtain rfl := map_of_at (conv := cv) z111 hx (fun j hj => hxi j (by omega))
    refine Run.exit rfl (Run.seq (Run.regionL [0, 1] rfl ?_))
    refine WO.v 22 rfl rfl (r_moveL rfl h3) ?_
    refine WO.v 2 rfl rfl (r_assignL rfl rfl) ?_
    exact WO.done (Run.ret1 Try.func70 Try.results70 rfl ⟨_, ⟨_, _, rfl, rfl⟩, H⟩)
theorem toTimerSS_tri (A : Option Addr) (c : Nat) (l : List (List S111)) (w : World) (hr : Kd.C (Kd.slice 111 k111) w A l.length l) (hs : szSS l ≤ 1048576) :
    Tri Try.prog 56 #[.slice A l.length c] w [] fun e LQ => ∃ A' c', e = .returned (.slice A' (l.map (List.map cv)).length c') ∧ LQ = [Rw o55 55 (.slice A' (l.map (List.map cv)).length c') (l.map (List.map cv))] := by
  have hl : l.length ≤ 1048576 := by unfold szSS at hs; omega
  refine tri_of_run0 (fn := Try.f56) (n := 23) Try.func56 rfl Try.ntmps56 (Nat.le_of_ble_eq_true rfl) fun H => ?_
  refine Run.seq (Run.regionL [0] rfl ?_)
  refine WO.v 2 rfl rfl (r_assignL rfl rfl) ?_
  refine WO.done (Run.seq (Run.regionL [0, 1, 2, 3] rfl ?_))
  refine WO.v 5 rfl rfl (r_moveL rfl rfl) ?_
  refine WO.v 6 rfl rfl (r_len (e := 100) rfl rfl Try.underlying87) ?_
  refine WO.smake 7 (ow := o55) [] rfl rfl rfl rfl rfl Try.underlying54 info55 rfl (Nat.succ_pos _) (Nat.succ_pos _) (fun _ => ⟨.slice none 0 0, rfl, [], fun k hk => by simp [Value.ownBlock] at hk, World.ownsRow_nil _ _ _ _, trivial⟩) H (by omega) ?_
  intro g w1 H1
  refine WO.v 3 rfl rfl (r_assignL rfl rfl) ?_
  refine WO.done (Run.seq (Run.seq (Run.regionL [0] rfl ?_)))
  refine WO.v 4 rfl rfl (r_assignI rfl rfl) ?_
  refine WO.done (Run.block ?_)
  refine Run.loopInv (fun m τ wr => ∃ (i : Nat) (xs : List (List S57)), i + m = l.length ∧ xs.length = l.length ∧ (∀ j, j < i → xs[j]? = some ((List.map cv) (l.getD j []))) ∧ τ 0 = .slice A l.length c ∧ τ 3 = .slice (some ⟨g, 0, none⟩) xs.length l.length ∧ τ 4 = .int .i64 i ∧
      St w Em [Rw o55 55 (.slice (some ⟨g, 0, none⟩) xs.length l.length) xs] wr) l.length ⟨0, List.replicate l.length [], by omega, by simp, fun j hj => absurd hj (Nat.not_lt_zero _), rfl, rfl, rfl, H1⟩ ?_
  rintro m τ wr ih ⟨i, xs, hm, hx, hxi, h0, h3, h4, H⟩
  refine Run.seq (Run.seq (Run.regionL [0, 1, 2, 3] rfl ?_))
  refine WO.v 8 rfl rfl (r_moveI rfl h4) ?_
  refine WO.v 9 rfl rfl (r_moveL rfl h0) ?_
  refine WO.v 10 rfl rfl (r_len (e := 100) rfl rfl Try.underlying87) ?_
  refine WO.v 11 rfl rfl (r_lss rfl rfl rfl rfl) ?_
  refine WO.done (Run.test rfl (fun hq => ?_) (fun hq => ?_))
  · have hi : i < l.length := by omega
    have hsi := sumOf_le szS l [] i hi
    obtain ⟨b, off, cs, rfl, hb, hcl, hk, hc⟩ := row_at (Kd.C_below hr H.below) [] i hi (Nat.succ_pos _)
    obtain ⟨Ai, ci, rfl, hci, hri⟩ := hk
    refine Run.skip (Run.seq (Run.block (Run.regionL [0, 1, 2, 3, 4, 5, 6, 7, 8] rfl ?_)))
    refine WO.v 14 rfl rfl (r_moveL rfl h3) ?_
    refine WO.v 15 rfl rfl (r_moveI rfl h4) ?_
    refine WO.v 16 rfl rfl (r_moveL rfl h0) ?_
    refine WO.v 17 rfl rfl (r_moveI rfl h4) ?_
    refine WO.v 18 rfl rfl (r_indexAddr rfl rfl rfl Try.underlying87 Try.sizeOf100 (by omega) hq (q := off + i * 1) (by rw [Int.toNat_natCast])) ?_
    refine WO.v 19 rfl rfl (r_load rfl rfl Try.isAgg100 (hc 0 _ rfl)) ?_
    refine WO.scall 20 rfl rfl Try.call70 H .n (toTimerS_tri Ai ci (l.getD i []) wr hri (by unfold szSS at hs; omega)) rfl rfl ?_
    rintro e LQ w2 ⟨A2, c2, rfl, rfl⟩ H2
    refine ⟨_, rfl, ?_⟩
    have H3 := H2.elR p0
    refine WO.v 21 rfl rfl (r_indexAddr rfl rfl rfl Try.underlying54 Try.sizeOf55 (by omega) (by omega) (q := 0 + i * 1) (by rw [Int.toNat_natCast])) ?_
    refine WO.sput rfl rfl rfl rfl rfl rfl Try.sizeOf55 rfl H3 p0 (j := i) (by omega) (Nat.zero_add _) ?_
    intro w3 H4
    refine WO.done (Run.blockEnd (Run.regionL [0, 1, 2] rfl ?_))
    refine WO.v 12 rfl rfl (r_moveI rfl h4) ?_
    refine WO.v 13 rfl rfl (r_add rfl rfl rfl (c := (i : Int) + 1) (wrap_in (by omega) (by omega))) ?_
    refine WO.v 4 rfl rfl (r_assignI rfl rfl) ?_
    exact WO.done (ih (m - 1) _ _ (by omega) ⟨i + 1, xs.set i ((List.map cv) (l.getD i [])), by omega, by rw [List.length_set]; exact hx, set_at (f := fun j => (List.map cv) (l.getD j [])) (by omega) rfl hxi, h0, by rw [List.length_set]; exact h3, rfl, by rw [List.length_set]; exact H4⟩)
  · obtain rfl := map_of_at (conv := (List.map cv)) [] hx (fun j hj => hxi j (by omega))
    refine Run.exit rfl (Run.seq (Run.regionL [0, 1] rfl ?_))
    refine WO.v 22 rfl rfl (r_moveL rfl h3) ?_
    refine WO.v 2 rfl rfl (r_assignL rfl rfl) ?_
    exact WO.done (Run.ret1 Try.func56 Try.results56 rfl ⟨_, ⟨_, _, rfl, rfl⟩, H⟩)
theorem toTimerSSS_tri (A : Option Addr) (c : Nat) (l : List (List (List S111))) (w : World) (hr : Kd.C (Kd.slice 100 (Kd.slice 111 k111)) w A l.length l) (hs : szSSS l ≤ 1048576) :
    Tri Try.prog 37 #[.slice A l.length c] w [] fun e LQ => ∃ A' c', e = .returned (.slice A' (l.map (List.map (List.map cv))).length c') ∧ LQ = [Rw o54 54 (.slice A' (l.map (List.map (List.map cv))).length c') (l.map (List.map (List.map cv)))] := by
  have hl : l.length ≤ 1048576 := by unfold szSSS at hs; omega
  refine tri_of_run0 (fn := Try.f37) (n := 23) Try.func37 rfl Try.ntmps37 (Nat.le_of_ble_eq_true rfl) fun H => ?_
  refine Run.seq (Run.regionL [0] rfl ?_)
  refine WO.v 2 rfl rfl (r_assignL rfl rfl) ?_
  refine WO.done (Run.seq (Run.regionL [0, 1, 2, 3] rfl ?_))
  refine WO.v 5 rfl rfl (r_moveL rfl rfl) ?_
  refine WO.v 6 rfl rfl (r_len (e := 87) rfl rfl Try.underlying22) ?_
  refine WO.smake 7 (ow := o54) [] rfl rfl rfl rfl rfl Try.underlying27 info54 rfl (Nat.succ_pos _) (Nat.succ_pos _) (fun _ => ⟨.slice none 0 0, rfl, [], fun k hk => by simp [Value.ownBlock] at hk, World.ownsRow_nil _ _ _ _, trivial⟩) H (by omega) ?_
  intro g w1 H1
  refine WO.v 3 rfl rfl (r_assignL rfl rfl) ?_
  refine WO.done (Run.seq (Run.seq (Run.regionL [0] rfl ?_)))
  refine WO.v 4 rfl rfl (r_assignI rfl rfl) ?_
  refine WO.done (Run.block ?_)
  refine Run.loopInv (fun m τ wr => ∃ (i : Nat) (xs : List (List (List S57))), i + m = l.length ∧ xs.length = l.length ∧ (∀ j, j < i → xs[j]? = some ((List.map (List.map cv)) (l.getD j []))) ∧ τ 0 = .slice A l.length c ∧ τ 3 = .slice (some ⟨g, 0, none⟩) xs.length l.length ∧ τ 4 = .int .i64 i ∧
      St w Em [Rw o54 54 (.slice (some ⟨g, 0, none⟩) xs.length l.length) xs] wr) l.length ⟨0, List.replicate l.length [], by omega, by simp, fun j hj => absurd hj (Nat.not_lt_zero _), rfl, rfl, rfl, H1⟩ ?_
  rintro m τ wr ih ⟨i, xs, hm, hx, hxi, h0, h3, h4, H⟩
  refine Run.seq (Run.seq (Run.regionL [0, 1, 2, 3] rfl ?_))
  refine WO.v 8 rfl rfl (r_moveI rfl h4) ?_
  refine WO.v 9 rfl rfl (r_moveL rfl h0) ?_
  refine WO.v 10 rfl rfl (r_len (e := 87) rfl rfl Try.underlying22) ?_
  refine WO.v 11 rfl rfl (r_lss rfl rfl rfl rfl) ?_
  refine WO.done (Run.test rfl (fun hq => ?_) (fun hq => ?_))
  · have hi : i < l.length := by omega
    have hsi := sumOf_le szSS l [] i hi
    obtain ⟨b, off, cs, rfl, hb, hcl, hk, hc⟩ := row_at (Kd.C_below hr H.below) [] i hi (Nat.succ_pos _)
    obtain ⟨Ai, ci, rfl, hci, hri⟩ := hk
    refine Run.skip (Run.seq (Run.block (Run.regionL [0, 1, 2, 3, 4, 5, 6, 7, 8] rfl ?_)))
    refine WO.v 14 rfl rfl (r_moveL rfl h3) ?_
    refine WO.v 15 rfl rfl (r_moveI rfl h4) ?_
    refine WO.v 16 rfl rfl (r_moveL rfl h0) ?_
    refine WO.v 17 rfl rfl (r_moveI rfl h4) ?_
    refine WO.v 18 rfl rfl (r_indexAddr rfl rfl rfl Try.underlying22 Try.sizeOf87 (by omega) hq (q := off + i * 1) (by rw [Int.toNat_natCast])) ?_
    refine WO.v 19 rfl rfl (r_load rfl rfl Try.isAgg87 (hc 0 _ rfl)) ?_
    refine WO.scall 20 rfl rfl Try.call56 H .n (toTimerSS_tri Ai ci (l.getD i []) wr hri (by unfold szSSS at hs; omega)) rfl rfl ?_
    rintro e LQ w2 ⟨A2, c2, rfl, rfl⟩ H2
    refine ⟨_, rfl, ?_⟩
    have H3 := H2.elR p0
    refine WO.v 21 rfl rfl (r_indexAddr rfl rfl rfl Try.underlying27 Try.sizeOf54 (by omega) (by omega) (q := 0 + i * 1) (by rw [Int.toNat_natCast])) ?_
    refine WO.sput rfl rfl rfl rfl rfl rfl Try.sizeOf54 rfl H3 p0 (j := i) (by omega) (Nat.zero_add _) ?_
    intro w3 H4
    refine WO.done (Run.blockEnd (Run.regionL [0, 1, 2] rfl ?_))
    refine WO.v 12 rfl rfl (r_moveI rfl h4) ?_
    refine WO.v 13 rfl rfl (r_add rfl rfl rfl (c := (i : Int) + 1) (wrap_in (by omega) (by omega))) ?_
    refine WO.v 4 rfl rfl (r_assignI rfl rfl) ?_
    exact WO.done (ih (m - 1) _ _ (by omega) ⟨i + 1, xs.set i ((List.map (List.map cv)) (l.getD i [])), by omega, by rw [List.length_set]; exact hx, set_at (f := fun j => (List.map (List.map cv)) (l.getD j [])) (by omega) rfl hxi, h0, by rw [List.length_set]; exact h3, rfl, by rw [List.length_set]; exact H4⟩)
  · obtain rfl := map_of_at (conv := (List.map (List.map cv))) [] hx (fun j hj => hxi j (by omega))
    refine Run.exit rfl (Run.seq (Run.regionL [0, 1] rfl ?_))
    refine WO.v 22 rfl rfl (r_moveL rfl h3) ?_
    refine WO.v 2 rfl rfl (r_assignL rfl rfl) ?_
    exact WO.done (Run.ret1 Try.func37 Try.results37 rfl ⟨_, ⟨_, _, rfl, rfl⟩, H⟩)
theorem eqTimer_calls (x : S57) (w : World) : Calls Try.prog 90 #[.agg #[.int .i64 x.f0, .int .i64 x.f1, .int .i64 x.f2], .agg #[.int .i64 x.f0, .int .i64 x.f1, .int .i64 x.f2]] w fun e w' => e = .returned (.bool true) ∧ Below w.heap.size w w' := by
  have H := St.nil w
  refine calls_of_run (fn := Try.f90) (n := 20) Try.func90 rfl Try.ntmps90 (Nat.le_of_ble_eq_true rfl) ?_
  refine Run.seq (Run.regionL [0, 1, 2] rfl ?_)
  refine WO.sbox 2 (cs := [.int .i64 x.f0, .int .i64 x.f1, .int .i64 x.f2]) rfl rfl rfl rfl H ?_
  intro g1 w1 H1
  refine WO.sbox 3 (cs := [.int .i64 x.f0, .int .i64 x.f1, .int .i64 x.f2]) rfl rfl rfl rfl H1 ?_
  intro g2 w2 H2
  refine WO.v 4 rfl rfl (r_assignB rfl rfl) ?_
  refine WO.done ((Run.seq (Run.seq (Run.regionL [0, 1, 2, 3, 4] rfl ?_))))
  refine WO.v 5 rfl rfl (r_fieldAddr rfl rfl Try.underlying57 rfl Try.sizeOf3 (q := 0) rfl) ?_
  refine WO.v 6 rfl rfl (r_load rfl rfl Try.isAgg3 (H2.cell p1 rfl)) ?_
  refine WO.v 7 rfl rfl (r_fieldAddr rfl rfl Try.underlying57 rfl Try.sizeOf3 (q := 0) rfl) ?_
  refine WO.v 8 rfl rfl (r_load rfl rfl Try.isAgg3 (H2.cell p0 rfl)) ?_
  refine WO.v 9 rfl rfl (r_neq rfl rfl rfl (decide_eq_false (fun h => h rfl))) ?_
  refine WO.done (Run.condF rfl (Run.skip (Run.seq (Run.seq (Run.regionL [0, 1, 2, 3, 4] rfl ?_)))))
  refine WO.v 10 rfl rfl (r_fieldAddr rfl rfl Try.underlying57 rfl Try.sizeOf3 (q := 1) rfl) ?_
  refine WO.v 11 rfl rfl (r_load rfl rfl Try.isAgg3 (H2.cell p1 rfl)) ?_
  refine WO.v 12 rfl rfl (r_fieldAddr rfl rfl Try.underlying57 rfl Try.sizeOf3 (q := 1) rfl) ?_
  refine WO.v 13 rfl rfl (r_load rfl rfl Try.isAgg3 (H2.cell p0 rfl)) ?_
  refine WO.v 14 rfl rfl (r_neq rfl rfl rfl (decide_eq_false (fun h => h rfl))) ?_
  refine WO.done (Run.condF rfl (Run.skip (Run.seq (Run.seq (Run.regionL [0, 1, 2, 3, 4] rfl ?_)))))
  refine WO.v 15 rfl rfl (r_fieldAddr rfl rfl Try.underlying57 rfl Try.sizeOf3 (q := 2) rfl) ?_
  refine WO.v 16 rfl rfl (r_load rfl rfl Try.isAgg3 (H2.cell p1 rfl)) ?_
  refine WO.v 17 rfl rfl (r_fieldAddr rfl rfl Try.underlying57 rfl Try.sizeOf3 (q := 2) rfl) ?_
  refine WO.v 18 rfl rfl (r_load rfl rfl Try.isAgg3 (H2.cell p0 rfl)) ?_
  refine WO.v 19 rfl rfl (r_neq rfl rfl rfl (decide_eq_false (fun h => h rfl))) ?_
  refine WO.done (Run.condF rfl (Run.skip (Run.seq (Run.regionL [0] rfl ?_))))
  refine WO.v 4 rfl rfl (r_assignB rfl rfl) ?_
  exact WO.done (Run.ret1 (v1 := .bool true) Try.func90 Try.results90 rfl ⟨rfl, H2.below⟩)
theorem eqTimerS_calls (A0 : Option Addr) (c0 : Nat) (A1 : Option Addr) (c1 : Nat) (l : List S57) (w : World) (hr0 : Kd.C k57 w A0 l.length l) (hr1 : Kd.C k57 w A1 l.length l) :
    Calls Try.prog 75 #[.slice A0 l.length c0, .slice A1 l.length c1] w fun e w' => e = .returned (.bool true) ∧ Below w.heap.size w w' := by
  have hbig : l.length ≤ 9223372036854775807 := hr0.2.1
  refine calls_of_run (fn := Try.f75) (n := 27) Try.func75 rfl Try.ntmps75 (Nat.le_of_ble_eq_true rfl) ?_
  refine Run.seq (Run.regionL [0] rfl ?_)
  refine WO.v 4 rfl rfl (r_assignB rfl rfl) ?_
  refine WO.done (Run.seq (Run.seq (Run.regionL [0, 1, 2, 3, 4] rfl ?_)))
  refine WO.v 6 rfl rfl (r_moveL rfl rfl) ?_
  refine WO.v 7 rfl rfl (r_len (e := 57) rfl rfl Try.underlying55) ?_
  refine WO.v 8 rfl rfl (r_moveL rfl rfl) ?_
  refine WO.v 9 rfl rfl (r_len (e := 57) rfl rfl Try.underlying55) ?_
  refine WO.v 10 rfl rfl (r_neq rfl rfl rfl (decide_eq_false (fun h => h rfl))) ?_
  refine WO.done (Run.condF rfl (Run.skip (Run.seq (Run.seq (Run.regionL [0] rfl ?_)))))
  refine WO.v 5 rfl rfl (r_assignI rfl rfl) ?_
  refine WO.done (Run.block ?_)
  refine Run.loopInv (fun m τ wr => ∃ (i : Nat), i + m = l.length ∧ τ 0 = .slice A0 l.length c0 ∧ τ 1 = .slice A1 l.length c1 ∧ τ 5 = .int .i64 i ∧ Below w.heap.size w wr) l.length ⟨0, by omega, rfl, rfl, rfl, Below.refl _ _⟩ ?_
  rintro m τ wr ih ⟨i, hm, h0, h1, h5, hbw⟩
  refine Run.seq (Run.seq (Run.regionL [0, 1, 2, 3] rfl ?_))
  refine WO.v 11 rfl rfl (r_moveI rfl h5) ?_
  refine WO.v 12 rfl rfl (r_moveL rfl h0) ?_
  refine WO.v 13 rfl rfl (r_len (e := 57) rfl rfl Try.underlying55) ?_
  refine WO.v 14 rfl rfl (r_lss rfl rfl rfl rfl) ?_
  refine WO.done (Run.test rfl (fun hq => ?_) (fun hq => ?_))
  · have hi : i < l.length := by omega
    obtain ⟨b0, o0, cs0, rfl, hb0, hcl0, hk0, hc0⟩ := row_at hr0 z57 i hi (Nat.succ_pos _)
    obtain ⟨b1, o1, cs1, rfl, hb1, hcl1, hk1, hc1⟩ := row_at hr1 z57 i hi (Nat.succ_pos _)
    obtain rfl := k57_open hk0
    obtain rfl := k57_open hk1
    refine Run.skip (Run.seq (Run.block (Run.seq (Run.quiet (fun W => Below w.heap.size w W) (by kernel_rfl) (by kernel_rfl) (hbw.trans ⟨rfl, rfl, rfl, Nat.le_refl _, fun _ _ => rfl⟩) _ rfl ?_))))
    refine WQ.v 17 rfl (fun W hW => r_moveL rfl h0) ?_
    refine WQ.v 18 rfl (fun W hW => r_moveI rfl h5) ?_
    refine WQ.v 19 rfl (fun W hW => r_indexAddr rfl rfl rfl Try.underlying55 Try.sizeOf57 (by omega) hq (q := o0 + i * 3) (by rw [Int.toNat_natCast])) ?_
    refine WQ.v 20 rfl (fun W hW => r_loadK (vs := [.int .i64 (l.getD i z57).f0, .int .i64 (l.getD i z57).f1, .int .i64 (l.getD i z57).f2]) rfl rfl Try.isAgg57 Try.sizeOf57 rfl (fun j u hj => (hW.cell (p := (⟨b0, o0 + i * 3, none⟩ : Addr).add j) (by rw [add_gg]; exact hb0)).trans (hc0 j u hj))) ?_
    refine WQ.v 21 rfl (fun W hW => r_moveL rfl h1) ?_
    refine WQ.v 22 rfl (fun W hW => r_moveI rfl h5) ?_
    refine WQ.v 23 rfl (fun W hW => r_indexAddr rfl rfl rfl Try.underlying55 Try.sizeOf57 (by omega) hq (q := o1 + i * 3) (by rw [Int.toNat_natCast])) ?_
    refine WQ.v 24 rfl (fun W hW => r_loadK (vs := [.int .i64 (l.getD i z57).f0, .int .i64 (l.getD i z57).f1, .int .i64 (l.getD i z57).f2]) rfl rfl Try.isAgg57 Try.sizeOf57 rfl (fun j u hj => (hW.cell (p := (⟨b1, o1 + i * 3, none⟩ : Addr).add j) (by rw [add_gg]; exact hb1)).trans (hc1 j u hj))) ?_
    refine WQ.c 25 rfl (fun W hW => (eqTimer_calls (l.getD i z57) W).mono fun e w' h => ⟨h.1, hW.trans (h.2.mono hW.size)⟩) (fun w => r_call rfl rfl rfl Try.call90) ?_
    refine WQ.v 26 rfl (fun W hW => r_not rfl rfl rfl) ?_
    refine WQ.done (fun w2 hb2 => Run.condF rfl (Run.skip (Run.blockEnd (Run.regionL [0, 1, 2] rfl ?_))))
    refine WO.v 15 rfl rfl (r_moveI rfl h5) ?_
    refine WO.v 16 rfl rfl (r_add rfl rfl rfl (c := (i : Int) + 1) (wrap_in (by omega) (by omega))) ?_
    refine WO.v 5 rfl rfl (r_assignI rfl rfl) ?_
    exact WO.done (ih (m - 1) _ _ (by omega) ⟨i + 1, by omega, h0, h1, rfl, hb2⟩)
  · refine Run.exit rfl (Run.seq (Run.regionL [0] rfl ?_))
    refine WO.v 4 rfl rfl (r_assignB rfl rfl) ?_
    exact WO.done (Run.ret1 (v1 := .bool true) Try.func75 Try.results75 rfl ⟨rfl, hbw⟩)
theorem eqTimerSS_calls (A0 : Option Addr) (c0 : Nat) (A1 : Option Addr) (c1 : Nat) (l : List (List S57)) (w : World) (hr0 : Kd.C (Kd.slice 57 k57) w A0 l.length l) (hr1 : Kd.C (Kd.slice 57 k57) w A1 l.length l) :
    Calls Try.prog 61 #[.slice A0 l.length c0, .slice A1 l.length c1] w fun e w' => e = .returned (.bool true) ∧ Below w.heap.size w w' := by
  have hbig : l.length ≤ 9223372036854775807 := hr0.2.1
  refine calls_of_run (fn := Try.f61) (n := 27) Try.func61 rfl Try.ntmps61 (Nat.le_of_ble_eq_true rfl) ?_
  refine Run.seq (Run.regionL [0] rfl ?_)
  refine WO.v 4 rfl rfl (r_assignB rfl rfl) ?_
  refine WO.done (Run.seq (Run.seq (Run.regionL [0, 1, 2, 3, 4] rfl ?_)))
  refine WO.v 6 rfl rfl (r_moveL rfl rfl) ?_
  refine WO.v 7 rfl rfl (r_len (e := 55) rfl rfl Try.underlying54) ?_
  refine WO.v 8 rfl rfl (r_moveL rfl rfl) ?_
  refine WO.v 9 rfl rfl (r_len (e := 55) rfl rfl Try.underlying54) ?_
  refine WO.v 10 rfl rfl (r_neq rfl rfl rfl (decide_eq_false (fun h => h rfl))) ?_
  refine WO.done (Run.condF rfl (Run.skip (Run.seq (Run.seq (Run.regionL [0] rfl ?_)))))
  refine WO.v 5 rfl rfl (r_assignI rfl rfl) ?_
  refine WO.done (Run.block ?_)
  refine Run.loopInv (fun m τ wr => ∃ (i : Nat), i + m = l.length ∧ τ 0 = .slice A0 l.length c0 ∧ τ 1 = .slice A1 l.length c1 ∧ τ 5 = .int .i64 i ∧ Below w.heap.size w wr) l.length ⟨0, by omega, rfl, rfl, rfl, Below.refl _ _⟩ ?_
  rintro m τ wr ih ⟨i, hm, h0, h1, h5, hbw⟩
  refine Run.seq (Run.seq (Run.regionL [0, 1, 2, 3] rfl ?_))
  refine WO.v 11 rfl rfl (r_moveI rfl h5) ?_
  refine WO.v 12 rfl rfl (r_moveL rfl h0) ?_
  refine WO.v 13 rfl rfl (r_len (e := 55) rfl rfl Try.underlying54) ?_
  refine WO.v 14 rfl rfl (r_lss rfl rfl rfl rfl) ?_
  refine WO.done (Run.test rfl (fun hq => ?_) (fun hq => ?_))
  · have hi : i < l.length := by omega
    obtain ⟨b0, o0, cs0, rfl, hb0, hcl0, hk0, hc0⟩ := row_at hr0 [] i hi (Nat.succ_pos _)
    obtain ⟨b1, o1, cs1, rfl, hb1, hcl1, hk1, hc1⟩ := row_at hr1 [] i hi (Nat.succ_pos _)
    obtain ⟨B0, d0, rfl, hd0, hri0⟩ := hk0
    obtain ⟨B1, d1, rfl, hd1, hri1⟩ := hk1
    refine Run.skip (Run.seq (Run.block (Run.seq (Run.quiet (fun W => Below w.heap.size w W) (by kernel_rfl) (by kernel_rfl) (hbw.trans ⟨rfl, rfl, rfl, Nat.le_refl _, fun _ _ => rfl⟩) _ rfl ?_))))
    refine WQ.v 17 rfl (fun W hW => r_moveL rfl h0) ?_
    refine WQ.v 18 rfl (fun W hW => r_moveI rfl h5) ?_
    refine WQ.v 19 rfl (fun W hW => r_indexAddr rfl rfl rfl Try.underlying54 Try.sizeOf55 (by omega) hq (q := o0 + i * 1) (by rw [Int.toNat_natCast])) ?_
    refine WQ.v 20 rfl (fun W hW => r_load rfl rfl Try.isAgg55 ((fun j u hj => (hW.cell (p := (⟨b0, o0 + i * 1, none⟩ : Addr).add j) (by rw [add_gg]; exact hb0)).trans (hc0 j u hj)) 0 _ rfl)) ?_
    refine WQ.v 21 rfl (fun W hW => r_moveL rfl h1) ?_
    refine WQ.v 22 rfl (fun W hW => r_moveI rfl h5) ?_
    refine WQ.v 23 rfl (fun W hW => r_indexAddr rfl rfl rfl Try.underlying54 Try.sizeOf55 (by omega) hq (q := o1 + i * 1) (by rw [Int.toNat_natCast])) ?_
    refine WQ.v 24 rfl (fun W hW => r_load rfl rfl Try.isAgg55 ((fun j u hj => (hW.cell (p := (⟨b1, o1 + i * 1, none⟩ : Addr).add j) (by rw [add_gg]; exact hb1)).trans (hc1 j u hj)) 0 _ rfl)) ?_
    refine WQ.c 25 rfl (fun W hW => (eqTimerS_calls B0 d0 B1 d1 (l.getD i []) W (Kd.C_below hri0 hW) (Kd.C_below hri1 hW)).mono fun e w' h => ⟨h.1, hW.trans (h.2.mono hW.size)⟩) (fun w => r_call rfl rfl rfl Try.call75) ?_
    refine WQ.v 26 rfl (fun W hW => r_not rfl rfl rfl) ?_
    refine WQ.done (fun w2 hb2 => Run.condF rfl (Run.skip (Run.blockEnd (Run.regionL [0, 1, 2] rfl ?_))))
    refine WO.v 15 rfl rfl (r_moveI rfl h5) ?_
    refine WO.v 16 rfl rfl (r_add rfl rfl rfl (c := (i : Int) + 1) (wrap_in (by omega) (by omega))) ?_
    refine WO.v 5 rfl rfl (r_assignI rfl rfl) ?_
    exact WO.done (ih (m - 1) _ _ (by omega) ⟨i + 1, by omega, h0, h1, rfl, hb2⟩)
  · refine Run.exit rfl (Run.seq (Run.regionL [0] rfl ?_))
    refine WO.v 4 rfl rfl (r_assignB rfl rfl) ?_
    exact WO.done (Run.ret1 (v1 := .bool true) Try.func61 Try.results61 rfl ⟨rfl, hbw⟩)
theorem eqTimerSSS_calls (A0 : Option Addr) (c0 : Nat) (A1 : Option Addr) (c1 : Nat) (l : List (List (List S57))) (w : World) (hr0 : Kd.C (Kd.slice 55 (Kd.slice 57 k57)) w A0 l.length l) (hr1 : Kd.C (Kd.slice 55 (Kd.slice 57 k57)) w A1 l.length l) :
    Calls Try.prog 39 #[.slice A0 l.length c0, .slice A1 l.length c1] w fun e w' => e = .returned (.bool true) ∧ Below w.heap.size w w' := by
  have hbig : l.length ≤ 9223372036854775807 := hr0.2.1
  refine calls_of_run (fn := Try.f39) (n := 27) Try.func39 rfl Try.ntmps39 (Nat.le_of_ble_eq_true rfl) ?_
  refine Run.seq (Run.regionL [0] rfl ?_)
  refine WO.v 4 rfl rfl (r_assignB rfl rfl) ?_
  refine WO.done (Run.seq (Run.seq (Run.regionL [0, 1, 2, 3, 4] rfl ?_)))
  refine WO.v 6 rfl rfl (r_moveL rfl rfl) ?_
  refine WO.v 7 rfl rfl (r_len (e := 54) rfl rfl Try.underlying27) ?_
  refine WO.v 8 rfl rfl (r_moveL rfl rfl) ?_
  refine WO.v 9 rfl rfl (r_len (e := 54) rfl rfl Try.underlying27) ?_
  refine WO.v 10 rfl rfl (r_neq rfl rfl rfl (decide_eq_false (fun h => h rfl))) ?_
  refine WO.done (Run.condF rfl (Run.skip (Run.seq (Run.seq (Run.regionL [0] rfl ?_)))))
  refine WO.v 5 rfl rfl (r_assignI rfl rfl) ?_
  refine WO.done (Run.block ?_)
  refine Run.loopInv (fun m τ wr => ∃ (i : Nat), i + m = l.length ∧ τ 0 = .slice A0 l.length c0 ∧ τ 1 = .slice A1 l.length c1 ∧ τ 5 = .int .i64 i ∧ Below w.heap.size w wr) l.length ⟨0, by omega, rfl, rfl, rfl, Below.refl _ _⟩ ?_
  rintro m τ wr ih ⟨i, hm, h0, h1, h5, hbw⟩
  refine Run.seq (Run.seq (Run.regionL [0, 1, 2, 3] rfl ?_))
  refine WO.v 11 rfl rfl (r_moveI rfl h5) ?_
  refine WO.v 12 rfl rfl (r_moveL rfl h0) ?_
  refine WO.v 13 rfl rfl (r_len (e := 54) rfl rfl Try.underlying27) ?_
  refine WO.v 14 rfl rfl (r_lss rfl rfl rfl rfl) ?_
  refine WO.done (Run.test rfl (fun hq => ?_) (fun hq => ?_))
  · have hi : i < l.length := by omega
    obtain ⟨b0, o0, cs0, rfl, hb0, hcl0, hk0, hc0⟩ := row_at hr0 [] i hi (Nat.succ_pos _)
    obtain ⟨b1, o1, cs1, rfl, hb1, hcl1, hk1, hc1⟩ := row_at hr1 [] i hi (Nat.succ_pos _)
    obtain ⟨B0, d0, rfl, hd0, hri0⟩ := hk0
    obtain ⟨B1, d1, rfl, hd1, hri1⟩ := hk1
    refine Run.skip (Run.seq (Run.block (Run.seq (Run.quiet (fun W => Below w.heap.size w W) (by kernel_rfl) (by kernel_rfl) (hbw.trans ⟨rfl, rfl, rfl, Nat.le_refl _, fun _ _ => rfl⟩) _ rfl ?_))))
    refine WQ.v 17 rfl (fun W hW => r_moveL rfl h0) ?_
    refine WQ.v 18 rfl (fun W hW => r_moveI rfl h5) ?_
    refine WQ.v 19 rfl (fun W hW => r_indexAddr rfl rfl rfl Try.underlying27 Try.sizeOf54 (by omega) hq (q := o0 + i * 1) (by rw [Int.toNat_natCast])) ?_
    refine WQ.v 20 rfl (fun W hW => r_load rfl rfl Try.isAgg54 ((fun j u hj => (hW.cell (p := (⟨b0, o0 + i * 1, none⟩ : Addr).add j) (by rw [add_gg]; exact hb0)).trans (hc0 j u hj)) 0 _ rfl)) ?_
    refine WQ.v 21 rfl (fun W hW => r_moveL rfl h1) ?_
    refine WQ.v 22 rfl (fun W hW => r_moveI rfl h5) ?_
    refine WQ.v 23 rfl (fun W hW => r_indexAddr rfl rfl rfl Try.underlying27 Try.sizeOf54 (by omega) hq (q := o1 + i * 1) (by rw [Int.toNat_natCast])) ?_
    refine WQ.v 24 rfl (fun W hW => r_load rfl rfl Try.isAgg54 ((fun j u hj => (hW.cell (p := (⟨b1, o1 + i * 1, none⟩ : Addr).add j) (by rw [add_gg]; exact hb1)).trans (hc1 j u hj)) 0 _ rfl)) ?_
    refine WQ.c 25 rfl (fun W hW => (eqTimerSS_calls B0 d0 B1 d1 (l.getD i []) W (Kd.C_below hri0 hW) (Kd.C_below hri1 hW)).mono fun e w' h => ⟨h.1, hW.trans (h.2.mono hW.size)⟩) (fun w => r_call rfl rfl rfl Try.call61) ?_
    refine WQ.v 26 rfl (fun W hW => r_not rfl rfl rfl) ?_
    refine WQ.done (fun w2 hb2 => Run.condF rfl (Run.skip (Run.blockEnd (Run.regionL [0, 1, 2] rfl ?_))))
    refine WO.v 15 rfl rfl (r_moveI rfl h5) ?_
    refine WO.v 16 rfl rfl (r_add rfl rfl rfl (c := (i : Int) + 1) (wrap_in (by omega) (by omega))) ?_
    refine WO.v 5 rfl rfl (r_assignI rfl rfl) ?_
    exact WO.done (ih (m - 1) _ _ (by omega) ⟨i + 1, by omega, h0, h1, rfl, hb2⟩)
  · refine Run.exit rfl (Run.seq (Run.regionL [0] rfl ?_))
    refine WO.v 4 rfl rfl (r_assignB rfl rfl) ?_
    exact WO.done (Run.ret1 (v1 := .bool true) Try.func39 Try.results39 rfl ⟨rfl, hbw⟩)
end Go.Proofs.Ytojpimpfpjhflaa.Wh
