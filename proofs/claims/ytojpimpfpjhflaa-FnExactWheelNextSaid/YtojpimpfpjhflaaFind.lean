/- The wheel's find: the place of a timer by its number. -/
import Derived.Test.YtojpimpfpjhflaaPFnExactWheelOKx0
import Derived.Test.YtojpimpfpjhflaaFwMem
namespace Go.Proofs.Ytojpimpfpjhflaa.Wh
open Go.RowKit Go.Proofs.Ytojpimpfpjhflaa.Fw Go.Proofs.YtojpimpfpjhflaaW.PrintWords Go.Proofs.Ytojpimpfpjhflaa.PFnExactWheelOK
set_option linter.unusedVariables false
set_option linter.unusedSimpArgs false

/-- The place of the first element of which p holds, from i on; -1 where none is. -/
def idxFrom (p : S57 → Bool) : List S57 → Nat → Int
  | [], _ => -1
  | x :: xs, i => if p x then i else idxFrom p xs (i + 1)
def idxP (p : S57 → Bool) (l : List S57) : Int := idxFrom p l 0
theorem idxFrom_at (p : S57 → Bool) : ∀ (l : List S57) (k i : Nat), k < l.length → (∀ j, j < k → p (l.getD j z57) = false) → p (l.getD k z57) = true → idxFrom p l i = (i + k : Nat)
  | [], k, i, h, _, _ => by simp at h
  | x :: xs, 0, i, _, _, h => by simp at h; simp [idxFrom, h]
  | x :: xs, k + 1, i, hk, h0, h => by
    have hx : p x = false := h0 0 (by omega)
    simp only [idxFrom, hx]
    rw [if_neg (by simp), idxFrom_at p xs k (i + 1) (by simpa using hk) (fun j hj => by simpa using h0 (j + 1) (by omega)) (by simpa using h)]
    omega
theorem idxFrom_no (p : S57 → Bool) : ∀ (l : List S57) (i : Nat), (∀ j, j < l.length → p (l.getD j z57) = false) → idxFrom p l i = -1
  | [], i, _ => rfl
  | x :: xs, i, h => by
    have hx : p x = false := h 0 (by simp)
    simp only [idxFrom, hx]
    rw [if_neg (by simp), idxFrom_no p xs (i + 1) (fun j hj => by simpa using h (j + 1) (by simpa using hj))]

/-- What is asked of a predicate on timers. -/
def PredT (g : Nat) (lb : Array Value) (p : S57 → Bool) (w : World) : Prop :=
  ∀ (W : World) (x : S57), Below w.heap.size w W → Calls Try.prog g (#[.agg #[.int .i64 x.f0, .int .i64 x.f1, .int .i64 x.f2]] ++ lb) W fun e w' => e = .returned (.bool (p x)) ∧ Below W.heap.size W w'

theorem find1_calls (x : S57) (B : Nat) (id : Int) (W : World) (hc : W.cell? ⟨B, 0, none⟩ = some (.int .i64 id)) :
    Calls Try.prog 74 #[.agg #[.int .i64 x.f0, .int .i64 x.f1, .int .i64 x.f2], .pointer (some ⟨B, 0, none⟩)] W fun e w' => e = .returned (.bool (decide (x.f0 = id))) ∧ Below W.heap.size W w' := by
  have hB : B < W.heap.size := World.block_lt_of_cell? W _ hc
  have hb := Blk.new W [.int .i64 x.f0, .int .i64 x.f1, .int .i64 x.f2] 57
  refine calls_of_run (fn := Try.f74) (n := 8) Try.func74 rfl Try.ntmps74 (Nat.le_of_ble_eq_true rfl) ?_
  refine Run.seq (Run.regionL [0, 1] rfl ?_)
  refine WO.v 2 rfl rfl (r_box rfl rfl rfl) ?_
  refine WO.v 3 rfl rfl (r_assignB rfl rfl) ?_
  refine WO.done (Run.seq (Run.regionL [0, 1, 2, 3, 4] rfl ?_))
  refine WO.v 4 rfl rfl (r_fieldAddr rfl rfl Try.underlying57 rfl Try.sizeOf3 rfl) ?_
  refine WO.v 5 rfl rfl (r_load rfl rfl Try.isAgg3 (hb.cell 0 _ rfl)) ?_
  refine WO.v 6 rfl rfl (r_load rfl rfl Try.isAgg3 ((((Below.refl _ _).alloc (Nat.le_refl _) _).cell (p := ⟨B, 0, none⟩) hB).trans hc)) ?_
  refine WO.v 7 rfl rfl (r_eql rfl rfl rfl rfl) ?_
  refine WO.v 3 rfl rfl (r_assignB rfl rfl) ?_
  exact WO.done (Run.ret1 Try.func74 Try.results74 rfl ⟨rfl, (Below.refl _ _).alloc (Nat.le_refl _) _⟩)

/-- An element of a row of timers, as cells. -/
theorem row_plain {w : World} {A : Option Addr} {n : Nat} {l : List S57} (h : Kd.C k57 w A n l) (hn : 0 < n) : ∃ b off, A = some ⟨b, off, none⟩ ∧ b < w.heap.size := by
  obtain ⟨ad, e, h0, h1, h2⟩ := at_T57 h 0 (by omega) (by omega)
  obtain ⟨b, off, sp⟩ := ad
  have : sp = none := by
    cases sp with
    | none => rfl
    | some q =>
      simp [Addr.add, World.cell?] at h0
      split at h0 <;> simp at h0
  subst this
  exact ⟨b, off, e, World.block_lt_of_cell? w _ h1⟩
theorem row_cells {w : World} {b off : Nat} {n : Nat} {l : List S57} (h : Kd.C k57 w (some ⟨b, off, none⟩) n l) (i : Nat) (hi : i < n) : ∀ j u, [Value.int .i64 (l.getD i z57).f0, .int .i64 (l.getD i z57).f1, .int .i64 (l.getD i z57).f2][j]? = some u → w.cell? ((⟨b, off + i * 3, none⟩ : Addr).add j) = some u := by
  obtain ⟨ad, c, e, _, hK, hc⟩ := Kd.C_get h z57 (i : Int) (by omega) (by omega)
  cases e
  rw [Int.toNat_natCast] at hK hc
  obtain rfl := k57_open hK
  intro j u hj
  have := hc j u hj
  rw [show (⟨b, off, none⟩ : Addr).add (i * k57.sz + j) = (⟨b, off + i * 3, none⟩ : Addr).add j from by
    show (⟨b, off, none⟩ : Addr).add (i * 3 + j) = _
    unfold Addr.add
    split <;> split <;> simp <;> omega] at this
  exact this

theorem index_calls (A : Option Addr) (c : Nat) (l : List S57) (g : Nat) (lb : Array Value) (p : S57 → Bool) (w : World) (eg : ∀ args w, (callFunc g args).run Try.prog w = .ok (.enter g args) w)
    (hr : Kd.C k57 w A l.length l) (hp : PredT g lb p w) :
    Calls Try.prog 73 #[.slice A l.length c, .func (.func g) #[] lb] w fun e w' => e = .returned (.int .i64 (idxP p l)) ∧ Below w.heap.size w w' := by
  have hbig : l.length ≤ 9223372036854775807 := hr.2.1
  refine calls_of_run (fn := Try.f73) (n := 19) Try.func73 rfl Try.ntmps73 (Nat.le_of_ble_eq_true rfl) ?_
  refine Run.seq (Run.regionL [0] rfl ?_)
  refine WO.v 4 rfl rfl (r_assignI rfl rfl) ?_
  refine WO.done (Run.seq (Run.seq (Run.regionL [0, 1, 2] rfl ?_)))
  refine WO.v 6 rfl rfl (r_moveL rfl rfl) ?_
  refine WO.v 7 rfl rfl (r_len (e := 57) rfl rfl Try.underlying55) ?_
  refine WO.v 8 rfl rfl (r_moveI rfl rfl) ?_
  refine WO.done (Run.block ?_)
  refine Run.loopInv (fun m τ wr => ∃ kk : Nat, kk + m = l.length ∧ τ 0 = .slice A l.length c ∧ τ 1 = .func (.func g) #[] lb ∧ τ 7 = .int .i64 l.length ∧ τ 8 = .int .i64 kk ∧ Below w.heap.size w wr ∧ ∀ j, j < kk → p (l.getD j z57) = false) l.length
    ⟨0, by omega, rfl, rfl, rfl, rfl, Below.refl _ _, fun j hj => absurd hj (Nat.not_lt_zero _)⟩ ?_
  rintro m τ wr ih ⟨kk, hm, h0, h1, h7, h8, hb, hA⟩
  refine Run.seq (Run.regionL [0] rfl ?_)
  refine WO.v 9 rfl rfl (r_lss rfl h8 h7 rfl) ?_
  refine WO.done (Run.seq (Run.test rfl (fun hlt => ?_) (fun hge => ?_)))
  · refine Run.skip (Run.seq (Run.block (Run.seq (Run.regionL [0, 1] rfl ?_))))
    have hlt' : kk < l.length := by omega
    obtain ⟨b, off, rfl, hbl⟩ := row_plain hr (by omega)
    have hcall := hp wr (l.getD kk z57) hb
    refine WO.v 10 rfl rfl (r_moveI rfl h8) ?_
    refine WO.v 5 rfl rfl (r_assignI rfl rfl) ?_
    refine WO.done (Run.seq (Run.regionL [0, 1, 2, 3, 4, 5] rfl ?_))
    refine WO.v 11 rfl rfl (r_moveF rfl h1) ?_
    refine WO.v 12 rfl rfl (r_moveL rfl h0) ?_
    refine WO.v 13 rfl rfl (r_moveI rfl rfl) ?_
    refine WO.v 14 rfl rfl (r_indexAddr rfl rfl rfl Try.underlying55 Try.sizeOf57 (by omega) hlt (q := off + kk * 3) (by rw [Int.toNat_natCast])) ?_
    refine WO.v 15 rfl rfl (r_loadK (vs := [.int .i64 (l.getD kk z57).f0, .int .i64 (l.getD kk z57).f1, .int .i64 (l.getD kk z57).f2]) rfl rfl Try.isAgg57 Try.sizeOf57 rfl (fun j u hj => ?_)) ?_
    · exact (hb.cell (p := (⟨b, off + kk * 3, none⟩ : Addr).add j) (by unfold Addr.add; split <;> exact hbl)).trans (row_cells hr kk hlt' j u hj)
    refine WO.c 16 rfl rfl hcall (r_callV rfl rfl rfl eg) ?_
    rintro e w2 ⟨rfl, hb2⟩
    refine ⟨_, rfl, WO.done ?_⟩
    have hb' : Below w.heap.size w w2 := hb.trans (hb2.mono hb.size)
    refine Run.testB rfl (fun hq => ?_) (fun hq => ?_)
    · refine Run.seq (Run.regionL [0, 1] rfl ?_)
      refine WO.v 17 rfl rfl (r_moveI rfl rfl) ?_
      refine WO.v 4 rfl rfl (r_assignI rfl rfl) ?_
      refine WO.done (Run.ret1 Try.func73 Try.results73 rfl ⟨?_, hb'⟩)
      unfold idxP
      rw [idxFrom_at p l kk 0 hlt' hA hq, Nat.zero_add]
      rfl
    · refine Run.skip (Run.blockEnd (Run.regionL [0, 1] rfl ?_))
      refine WO.v 18 rfl rfl (r_add rfl h8 rfl (c := (kk : Int) + 1) ?_) ?_
      · simp [IntKind.wrap, IntKind.bits, IntKind.signed]; omega
      refine WO.v 8 rfl rfl (r_moveI rfl rfl) ?_
      refine WO.done (ih (m - 1) _ _ (by omega) ⟨kk + 1, by omega, h0, h1, h7, rfl, hb', fun j hj => ?_⟩)
      by_cases e : j = kk
      · subst e; exact hq
      · exact hA j (by omega)
  · refine Run.exit rfl (Run.seq (Run.regionL [0] rfl ?_))
    refine WO.v 4 rfl rfl (r_assignI rfl rfl) ?_
    refine WO.done (Run.ret1 Try.func73 Try.results73 rfl ⟨?_, hb⟩)
    unfold idxP
    rw [idxFrom_no p l 0 (fun j hj => hA j (by omega))]
    rfl

def fidx (id : Int) (l : List S57) : Int := idxP (fun x => decide (x.f0 = id)) l
/-- (*ticker).find, the ticker's cells in a block g. -/
theorem find_calls (g : Nat) (id : Int) (A : Option Addr) (c : Nat) (l : List S57) (w : World) (hc : w.cell? ⟨g, 2, none⟩ = some (.slice A l.length c)) (hr : Kd.C k57 w A l.length l) :
    Calls Try.prog 60 #[.pointer (some ⟨g, 0, none⟩), .int .i64 id] w fun e w' => e = .returned (.int .i64 (fidx id l)) ∧ Below w.heap.size w w' := by
  have hgl : g < w.heap.size := World.block_lt_of_cell? w _ hc
  have hb0 : Below w.heap.size w (w.alloc (.cells #[.int .i64 id] 3)) := (Below.refl _ _).alloc (Nat.le_refl _) _
  have hblk := Blk.new w [.int .i64 id] 3
  refine calls_of_run (fn := Try.f60) (n := 11) Try.func60 rfl Try.ntmps60 (Nat.le_of_ble_eq_true rfl) ?_
  refine Run.seq (Run.regionL [0, 1] rfl ?_)
  refine WO.v 3 rfl rfl (r_box rfl rfl rfl) ?_
  refine WO.v 4 rfl rfl (r_assignI rfl rfl) ?_
  refine WO.done (Run.seq (Run.regionL [0, 1, 2, 3, 4, 5, 6] rfl ?_))
  refine WO.v 5 rfl rfl (r_moveP rfl rfl) ?_
  refine WO.v 6 rfl rfl (r_nilCheck rfl rfl) ?_
  refine WO.v 7 rfl rfl (r_fieldAddr rfl rfl Try.underlying69 rfl Try.sizeOf55 rfl) ?_
  refine WO.v 8 rfl rfl (r_load rfl rfl Try.isAgg55 ((hb0.cell (p := ⟨g, 2, none⟩) hgl).trans hc)) ?_
  refine WO.v 9 rfl rfl (r_makeFunc rfl rfl rfl) ?_
  have hcall := index_calls A c l 74 #[.pointer (some ⟨w.heap.size, 0, none⟩)] (fun x => decide (x.f0 = id)) (w.alloc (.cells #[.int .i64 id] 3)) Try.call74 (Kd.C_below hr hb0)
    (fun W2 x hb2 => (find1_calls x w.heap.size id W2 ((hblk.below hb2 hblk.lt).cell 0 _ rfl)).mono fun e w' h => h)
  refine WO.call_ 10 rfl rfl Try.call73 hcall rfl rfl ?_
  rintro e w2 ⟨rfl, hb2⟩
  refine ⟨_, rfl, ?_⟩
  refine WO.v 4 rfl rfl (r_assignI rfl rfl) ?_
  exact WO.done (Run.ret1 Try.func60 Try.results60 rfl ⟨rfl, hb0.trans (hb2.mono hb0.size)⟩)
end Go.Proofs.Ytojpimpfpjhflaa.Wh
