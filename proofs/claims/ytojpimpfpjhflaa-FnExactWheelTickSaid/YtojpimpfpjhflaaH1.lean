/- The wheel: what unwind, WheelOK and WheelNext come to, in both programs; no condition. -/
import Derived.Test.YtojpimpfpjhflaaG1
import Derived.Test.YtojpimpfpjhflaaPFnExactWheelOKx0
import Derived.Shelf.SlSortCmp.NoneTotal
import Derived.Test.YtojpimpfpjhflaaPFnExactWheelOKx2
namespace Go.Proofs.Ytojpimpfpjhflaa.Wh
open Go.RowKit Go.Proofs.Ytojpimpfpjhflaa.Fw Go.Proofs.YtojpimpfpjhflaaW.PrintWords Go.Proofs.Ytojpimpfpjhflaa.PFnExactWheelOK
set_option linter.unusedVariables false
set_option linter.unusedSimpArgs false

/-- The place of the first element of which p holds, from i on; -1 where none is. -/
def idxFrom (p : S57 → Bool) : List S57 → Nat → Int
  | [], _ => -1
  | x :: xs, i => if p x then i else idxFrom p xs (i + 1)
def idxP (p : S57 → Bool) (l : List S57) : Int := idxFrom p l 0
theorem idxFrom_at (p : S57 → Bool) : ∀ (l : List S57) (k i : Nat), k < l.length → (∀ j, j < k → p (l.getD j z57) = false) → p (l.getD k z57) = true → idxFrom p l i = (i + k : Nat)
  | [], k, i, h, _, _ => by simp at h
  | x :: xs, 0, i, _, _, h => by simp at h; simp [idxFrom, h]
  | x :: xs, k + 1, i, hk, h0, h => by
    have hx : p x = false := h0 0 (by omega)
    simp only [idxFrom, hx]
    rw [if_neg (by simp), idxFrom_at p xs k (i + 1) (by simpa using hk) (fun j hj => by simpa using h0 (j + 1) (by omega)) (by simpa using h)]
    omega
theorem idxFrom_no (p : S57 → Bool) : ∀ (l : List S57) (i : Nat), (∀ j, j < l.length → p (l.getD j z57) = false) → idxFrom p l i = -1
  | [], i, _ => rfl
  | x :: xs, i, h => by
    have hx : p x = false := h 0 (by simp)
    simp only [idxFrom, hx]
    rw [if_neg (by simp), idxFrom_no p xs (i + 1) (fun j hj => by simpa using h (j + 1) (by simpa using hj))]

/-- What is asked of a predicate on timers. -/
def PredT (g : Nat) (lb : Array Value) (p : S57 → Bool) (w : World) : Prop :=
  ∀ (W : World) (x : S57), Below w.heap.size w W → Calls Try.prog g (#[.agg #[.int .i64 x.f0, .int .i64 x.f1, .int .i64 x.f2]] ++ lb) W fun e w' => e = .returned (.bool (p x)) ∧ Below W.heap.size W w'

theorem find1_calls (x : S57) (B : Nat) (id : Int) (W : World) (hc : W.cell? ⟨B, 0, none⟩ = some (.int .i64 id)) :
    Calls Try.prog 74 #[.agg #[.int .i64 x.f0, .int .i64 x.f1, .int .i64 x.f2], .pointer (some ⟨B, 0, none⟩)] W fun e w' => e = .returned (.bool (decide (x.f0 = id))) ∧ Below W.heap.size W w' := by
  have hB : B < W.heap.size := World.block_lt_of_cell? W _ hc
  have hb := Blk.new W [.int .i64 x.f0, .int .i64 x.f1, .int .i64 x.f2] 57
  refine calls_of_run (fn := Try.f74) (n := 8) Try.func74 rfl Try.ntmps74 (Nat.le_of_ble_eq_true rfl) ?_
  refine Run.seq (Run.regionL [0, 1] rfl ?_)
  refine WO.v 2 rfl rfl (r_box rfl rfl rfl) ?_
  refine WO.v 3 rfl rfl (r_assignB rfl rfl) ?_
  refine WO.done (Run.seq (Run.regionL [0, 1, 2, 3, 4] rfl ?_))
  refine WO.v 4 rfl rfl (r_fieldAddr rfl rfl Try.underlying57 rfl Try.sizeOf3 rfl) ?_
  refine WO.v 5 rfl rfl (r_load rfl rfl Try.isAgg3 (hb.cell 0 _ rfl)) ?_
  refine WO.v 6 rfl rfl (r_load rfl rfl Try.isAgg3 ((((Below.refl _ _).alloc (Nat.le_refl _) _).cell (p := ⟨B, 0, none⟩) hB).trans hc)) ?_
  refine WO.v 7 rfl rfl (r_eql rfl rfl rfl rfl) ?_
  refine WO.v 3 rfl rfl (r_assignB rfl rfl) ?_
  exact WO.done (Run.ret1 Try.func74 Try.results74 rfl ⟨rfl, (Below.refl _ _).alloc (Nat.le_refl _) _⟩)

/-- An element of a row of timers, as cells. -/
theorem row_plain {w : World} {A : Option Addr} {n : Nat} {l : List S57} (h : Kd.C k57 w A n l) (hn : 0 < n) : ∃ b off, A = some ⟨b, off, none⟩ ∧ b < w.heap.size := by
  obtain ⟨ad, e, h0, h1, h2⟩ := at_T57 h 0 (by omega) (by omega)
  obtain ⟨b, off, sp⟩ := ad
  have : sp = none := by
    cases sp with
    | none => rfl
    | some q =>
      simp [Addr.add, World.cell?] at h0
      split at h0 <;> simp at h0
  subst this
  exact ⟨b, off, e, World.block_lt_of_cell? w _ h1⟩
theorem row_cells {w : World} {b off : Nat} {n : Nat} {l : List S57} (h : Kd.C k57 w (some ⟨b, off, none⟩) n l) (i : Nat) (hi : i < n) : ∀ j u, [Value.int .i64 (l.getD i z57).f0, .int .i64 (l.getD i z57).f1, .int .i64 (l.getD i z57).f2][j]? = some u → w.cell? ((⟨b, off + i * 3, none⟩ : Addr).add j) = some u := by
  obtain ⟨ad, c, e, _, hK, hc⟩ := Kd.C_get h z57 (i : Int) (by omega) (by omega)
  cases e
  rw [Int.toNat_natCast] at hK hc
  obtain rfl := k57_open hK
  intro j u hj
  have := hc j u hj
  rw [show (⟨b, off, none⟩ : Addr).add (i * k57.sz + j) = (⟨b, off + i * 3, none⟩ : Addr).add j from by
    show (⟨b, off, none⟩ : Addr).add (i * 3 + j) = _
    unfold Addr.add
    split <;> split <;> simp <;> omega] at this
  exact this

theorem index_calls (A : Option Addr) (c : Nat) (l : List S57) (g : Nat) (lb : Array Value) (p : S57 → Bool) (w : World) (eg : ∀ args w, (callFunc g args).run Try.prog w = .ok (.enter g args) w)
    (hr : Kd.C k57 w A l.length l) (hp : PredT g lb p w) :
    Calls Try.prog 73 #[.slice A l.length c, .func (.func g) #[] lb] w fun e w' => e = .returned (.int .i64 (idxP p l)) ∧ Below w.heap.size w w' := by
  have hbig : l.length ≤ 9223372036854775807 := hr.2.1
  refine calls_of_run (fn := Try.f73) (n := 19) Try.func73 rfl Try.ntmps73 (Nat.le_of_ble_eq_true rfl) ?_
  refine Run.seq (Run.regionL [0] rfl ?_)
  refine WO.v 4 rfl rfl (r_assignI rfl rfl) ?_
  refine WO.done (Run.seq (Run.seq (Run.regionL [0, 1, 2] rfl ?_)))
  refine WO.v 6 rfl rfl (r_moveL rfl rfl) ?_
  refine WO.v 7 rfl rfl (r_len (e := 57) rfl rfl Try.underlying55) ?_
  refine WO.v 8 rfl rfl (r_moveI rfl rfl) ?_
  refine WO.done (Run.block ?_)
  refine Run.loopInv (fun m τ wr => ∃ kk : Nat, kk + m = l.length ∧ τ 0 = .slice A l.length c ∧ τ 1 = .func (.func g) #[] lb ∧ τ 7 = .int .i64 l.length ∧ τ 8 = .int .i64 kk ∧ Below w.heap.size w wr ∧ ∀ j, j < kk → p (l.getD j z57) = false) l.length
    ⟨0, by omega, rfl, rfl, rfl, rfl, Below.refl _ _, fun j hj => absurd hj (Nat.not_lt_zero _)⟩ ?_
  rintro m τ wr ih ⟨kk, hm, h0, h1, h7, h8, hb, hA⟩
  refine Run.seq (Run.regionL [0] rfl ?_)
  refine WO.v 9 rfl rfl (r_lss rfl h8 h7 rfl) ?_
  refine WO.done (Run.seq (Run.test rfl (fun hlt => ?_) (fun hge => ?_)))
  · refine Run.skip (Run.seq (Run.block (Run.seq (Run.regionL [0, 1] rfl ?_))))
    have hlt' : kk < l.length := by omega
    obtain ⟨b, off, rfl, hbl⟩ := row_plain hr (by omega)
    have hcall := hp wr (l.getD kk z57) hb
    refine WO.v 10 rfl rfl (r_moveI rfl h8) ?_
    refine WO.v 5 rfl rfl (r_assignI rfl rfl) ?_
    refine WO.done (Run.seq (Run.regionL [0, 1, 2, 3, 4, 5] rfl ?_))
    refine WO.v 11 rfl rfl (r_moveF rfl h1) ?_
    refine WO.v 12 rfl rfl (r_moveL rfl h0) ?_
    refine WO.v 13 rfl rfl (r_moveI rfl rfl) ?_
    refine WO.v 14 rfl rfl (r_indexAddr rfl rfl rfl Try.underlying55 Try.sizeOf57 (by omega) hlt (q := off + kk * 3) (by rw [Int.toNat_natCast])) ?_
    refine WO.v 15 rfl rfl (r_loadK (vs := [.int .i64 (l.getD kk z57).f0, .int .i64 (l.getD kk z57).f1, .int .i64 (l.getD kk z57).f2]) rfl rfl Try.isAgg57 Try.sizeOf57 rfl (fun j u hj => ?_)) ?_
    · exact (hb.cell (p := (⟨b, off + kk * 3, none⟩ : Addr).add j) (by unfold Addr.add; split <;> exact hbl)).trans (row_cells hr kk hlt' j u hj)
    refine WO.c 16 rfl rfl hcall (r_callV rfl rfl rfl eg) ?_
    rintro e w2 ⟨rfl, hb2⟩
    refine ⟨_, rfl, WO.done ?_⟩
    have hb' : Below w.heap.size w w2 := hb.trans (hb2.mono hb.size)
    refine Run.testB rfl (fun hq => ?_) (fun hq => ?_)
    · refine Run.seq (Run.regionL [0, 1] rfl ?_)
      refine WO.v 17 rfl rfl (r_moveI rfl rfl) ?_
      refine WO.v 4 rfl rfl (r_assignI rfl rfl) ?_
      refine WO.done (Run.ret1 Try.func73 Try.results73 rfl ⟨?_, hb'⟩)
      unfold idxP
      rw [idxFrom_at p l kk 0 hlt' hA hq, Nat.zero_add]
      rfl
    · refine Run.skip (Run.blockEnd (Run.regionL [0, 1] rfl ?_))
      refine WO.v 18 rfl rfl (r_add rfl h8 rfl (c := (kk : Int) + 1) ?_) ?_
      · simp [IntKind.wrap, IntKind.bits, IntKind.signed]; omega
      refine WO.v 8 rfl rfl (r_moveI rfl rfl) ?_
      refine WO.done (ih (m - 1) _ _ (by omega) ⟨kk + 1, by omega, h0, h1, h7, rfl, hb', fun j hj => ?_⟩)
      by_cases e : j = kk
      · subst e; exact hq
      · exact hA j (by omega)
  · refine Run.exit rfl (Run.seq (Run.regionL [0] rfl ?_))
    refine WO.v 4 rfl rfl (r_assignI rfl rfl) ?_
    refine WO.done (Run.ret1 Try.func73 Try.results73 rfl ⟨?_, hb⟩)
    unfold idxP
    rw [idxFrom_no p l 0 (fun j hj => hA j (by omega))]
    rfl

def fidx (id : Int) (l : List S57) : Int := idxP (fun x => decide (x.f0 = id)) l
/-- (*ticker).find, the ticker's cells in a block g. -/
theorem find_calls (g : Nat) (id : Int) (A : Option Addr) (c : Nat) (l : List S57) (w : World) (hc : w.cell? ⟨g, 2, none⟩ = some (.slice A l.length c)) (hr : Kd.C k57 w A l.length l) :
    Calls Try.prog 60 #[.pointer (some ⟨g, 0, none⟩), .int .i64 id] w fun e w' => e = .returned (.int .i64 (fidx id l)) ∧ Below w.heap.size w w' := by
  have hgl : g < w.heap.size := World.block_lt_of_cell? w _ hc
  have hb0 : Below w.heap.size w (w.alloc (.cells #[.int .i64 id] 3)) := (Below.refl _ _).alloc (Nat.le_refl _) _
  have hblk := Blk.new w [.int .i64 id] 3
  refine calls_of_run (fn := Try.f60) (n := 11) Try.func60 rfl Try.ntmps60 (Nat.le_of_ble_eq_true rfl) ?_
  refine Run.seq (Run.regionL [0, 1] rfl ?_)
  refine WO.v 3 rfl rfl (r_box rfl rfl rfl) ?_
  refine WO.v 4 rfl rfl (r_assignI rfl rfl) ?_
  refine WO.done (Run.seq (Run.regionL [0, 1, 2, 3, 4, 5, 6] rfl ?_))
  refine WO.v 5 rfl rfl (r_moveP rfl rfl) ?_
  refine WO.v 6 rfl rfl (r_nilCheck rfl rfl) ?_
  refine WO.v 7 rfl rfl (r_fieldAddr rfl rfl Try.underlying69 rfl Try.sizeOf55 rfl) ?_
  refine WO.v 8 rfl rfl (r_load rfl rfl Try.isAgg55 ((hb0.cell (p := ⟨g, 2, none⟩) hgl).trans hc)) ?_
  refine WO.v 9 rfl rfl (r_makeFunc rfl rfl rfl) ?_
  have hcall := index_calls A c l 74 #[.pointer (some ⟨w.heap.size, 0, none⟩)] (fun x => decide (x.f0 = id)) (w.alloc (.cells #[.int .i64 id] 3)) Try.call74 (Kd.C_below hr hb0)
    (fun W2 x hb2 => (find1_calls x w.heap.size id W2 ((hblk.below hb2 hblk.lt).cell 0 _ rfl)).mono fun e w' h => h)
  refine WO.call_ 10 rfl rfl Try.call73 hcall rfl rfl ?_
  rintro e w2 ⟨rfl, hb2⟩
  refine ⟨_, rfl, ?_⟩
  refine WO.v 4 rfl rfl (r_assignI rfl rfl) ?_
  exact WO.done (Run.ret1 Try.func60 Try.results60 rfl ⟨rfl, hb0.trans (hb2.mono hb0.size)⟩)
end Go.Proofs.Ytojpimpfpjhflaa.Wh
namespace Go.Proofs.Ytojpimpfpjhflaa.Wh
open Go.RowKit Go.Proofs.Ytojpimpfpjhflaa.Fw Go.Proofs.YtojpimpfpjhflaaW.PrintWords Go.Proofs.Ytojpimpfpjhflaa.PFnExactWheelOK
set_option linter.unusedVariables false
set_option linter.unusedSimpArgs false

theorem inRange_calls (a b c : Int) (w : World) : Calls Try.prog 45 #[.int .i64 a, .int .i64 b, .int .i64 c] w fun e w' => e = .returned (.bool (decide (b ≤ a ∧ a ≤ c))) ∧ w' = w := by
  refine calls_of_run (fn := Try.f45) (n := 15) Try.func45 rfl Try.ntmps45 (Nat.le_of_ble_eq_true rfl) ?_
  refine Run.seq (Run.regionL [0] rfl ?_)
  refine WO.v 6 rfl rfl (r_assignB rfl rfl) ?_
  refine WO.done (Run.seq (Run.regionL [0, 1, 2, 3, 4, 5, 6, 7, 8] rfl ?_))
  refine WO.v 7 rfl rfl (r_moveI rfl rfl) ?_
  refine WO.v 8 rfl rfl (r_moveI rfl rfl) ?_
  by_cases h : b ≤ a
  · refine WO.v 9 rfl rfl (r_geq rfl rfl rfl (decide_eq_true h)) ?_
    refine WO.v 10 rfl rfl (r_moveB rfl rfl) ?_
    refine WO.v 11 rfl rfl (r_moveI rfl rfl) ?_
    refine WO.v 12 rfl rfl (r_moveI rfl rfl) ?_
    refine WO.v 13 rfl rfl (r_leq rfl rfl rfl rfl) ?_
    refine WO.v 14 rfl rfl (r_pickB rfl rfl rfl) ?_
    refine WO.v 6 rfl rfl (r_assignB rfl rfl) ?_
    exact WO.done (Run.ret1 Try.func45 Try.results45 rfl ⟨by simp only [h, true_and]; rfl, rfl⟩)
  · refine WO.v 9 rfl rfl (r_geq rfl rfl rfl (decide_eq_false h)) ?_
    refine WO.v 10 rfl rfl (r_moveB rfl rfl) ?_
    refine WO.x 11 rfl rfl ?_
    refine WO.x 12 rfl rfl ?_
    refine WO.x 13 rfl rfl ?_
    refine WO.v 14 rfl rfl (r_pickB rfl rfl rfl) ?_
    refine WO.v 6 rfl rfl (r_assignB rfl rfl) ?_
    exact WO.done (Run.ret1 Try.func45 Try.results45 rfl ⟨by simp only [h, false_and]; rfl, rfl⟩)

/-- The level and the slot of a moment. -/
def placeP (at_ now : Int) : Int × Int :=
  if at_ / 8 = now / 8 then (0, at_ % 8) else if at_ / 64 = now / 64 then (1, at_ / 8 % 8) else (2, at_ / 64 % 8)
theorem quo_in {a b : Int} (h0 : 0 ≤ a) (h1 : a ≤ 9223372036854775807) (hb : 0 < b) : IntKind.i64.wrap (a.tdiv b) = a / b := by
  rw [Int.tdiv_eq_ediv_of_nonneg h0]
  have h2 : 0 ≤ a / b := Int.ediv_nonneg h0 (by omega)
  have h3 : a / b ≤ a := Int.ediv_le_self b h0
  exact wrap_in (by omega) (by omega)
theorem rem_in {a b : Int} (h0 : 0 ≤ a) : a.tmod b = a % b := Int.tmod_eq_emod_of_nonneg h0

theorem place_calls (a b : Int) (ha : 0 ≤ a) (ha2 : a ≤ 9223372036854775807) (hb : 0 ≤ b) (hb2 : b ≤ 9223372036854775807) (w : World) :
    Calls Try.prog 65 #[.int .i64 a, .int .i64 b] w fun e w' => e = .returned (.tuple #[.int .i64 (placeP a b).1, .int .i64 (placeP a b).2]) ∧ w' = w := by
  have e8 : (0 : Int) ≤ a / 8 := Int.ediv_nonneg ha (by omega)
  have e64 : (0 : Int) ≤ a / 64 := Int.ediv_nonneg ha (by omega)
  refine calls_of_run (fn := Try.f65) (n := 26) Try.func65 rfl Try.ntmps65 (Nat.le_of_ble_eq_true rfl) ?_
  refine Run.seq (Run.regionL [0, 1] rfl ?_)
  refine WO.v 4 rfl rfl (r_assignI rfl rfl) ?_
  refine WO.v 5 rfl rfl (r_assignI rfl rfl) ?_
  refine WO.done (Run.seq (Run.block (Run.seq (Run.regionL [0, 1, 2, 3, 4, 5] rfl ?_))))
  refine WO.v 7 rfl rfl (r_moveI rfl rfl) ?_
  refine WO.v 8 rfl rfl (r_quo rfl rfl rfl (by decide) (quo_in ha ha2 (by decide))) ?_
  refine WO.v 9 rfl rfl (r_moveI rfl rfl) ?_
  refine WO.v 10 rfl rfl (r_quo rfl rfl rfl (by decide) (quo_in hb hb2 (by decide))) ?_
  refine WO.v 11 rfl rfl (r_eql rfl rfl rfl rfl) ?_
  refine WO.v 6 rfl rfl (r_assignB rfl rfl) ?_
  refine WO.done (Run.test rfl (fun hq => ?_) (fun hq => ?_))
  · refine Run.seq (Run.regionL [0, 1, 2, 3] rfl ?_)
    refine WO.v 12 rfl rfl (r_moveI rfl rfl) ?_
    refine WO.v 13 rfl rfl (r_rem rfl rfl rfl (by decide) (rem_in ha)) ?_
    refine WO.v 4 rfl rfl (r_assignI rfl rfl) ?_
    refine WO.v 5 rfl rfl (r_assignI rfl rfl) ?_
    exact WO.done (Run.ret2 Try.func65 Try.results65 rfl rfl ⟨by simp only [placeP, if_pos hq]; rfl, rfl⟩)
  · refine Run.seq (Run.regionL [0, 1, 2, 3, 4, 5] rfl ?_)
    refine WO.v 15 rfl rfl (r_moveI rfl rfl) ?_
    refine WO.v 16 rfl rfl (r_quo rfl rfl rfl (by decide) (quo_in ha ha2 (by decide))) ?_
    refine WO.v 17 rfl rfl (r_moveI rfl rfl) ?_
    refine WO.v 18 rfl rfl (r_quo rfl rfl rfl (by decide) (quo_in hb hb2 (by decide))) ?_
    refine WO.v 19 rfl rfl (r_eql rfl rfl rfl rfl) ?_
    refine WO.v 14 rfl rfl (r_assignB rfl rfl) ?_
    refine WO.done (Run.test rfl (fun hr => ?_) (fun hr => ?_))
    · refine Run.seq (Run.regionL [0, 1, 2, 3, 4] rfl ?_)
      refine WO.v 20 rfl rfl (r_moveI rfl rfl) ?_
      refine WO.v 21 rfl rfl (r_quo rfl rfl rfl (by decide) (quo_in ha ha2 (by decide))) ?_
      refine WO.v 22 rfl rfl (r_rem rfl rfl rfl (by decide) (rem_in e8)) ?_
      refine WO.v 4 rfl rfl (r_assignI rfl rfl) ?_
      refine WO.v 5 rfl rfl (r_assignI rfl rfl) ?_
      exact WO.done (Run.ret2 Try.func65 Try.results65 rfl rfl ⟨by simp only [placeP, if_neg hq, if_pos hr]; rfl, rfl⟩)
    · refine Run.skip (Run.blockEnd (Run.seq (Run.regionL [0, 1, 2, 3, 4] rfl ?_)))
      refine WO.v 23 rfl rfl (r_moveI rfl rfl) ?_
      refine WO.v 24 rfl rfl (r_quo rfl rfl rfl (by decide) (quo_in ha ha2 (by decide))) ?_
      refine WO.v 25 rfl rfl (r_rem rfl rfl rfl (by decide) (rem_in e64)) ?_
      refine WO.v 4 rfl rfl (r_assignI rfl rfl) ?_
      refine WO.v 5 rfl rfl (r_assignI rfl rfl) ?_
      exact WO.done (Run.ret2 Try.func65 Try.results65 rfl rfl ⟨by simp only [placeP, if_neg hq, if_neg hr]; rfl, rfl⟩)

/-- An element of a row of rows. -/
theorem slice_at {α : Type} {d : Kd α} {e : Nat} {w : World} {A : Option Addr} {n : Nat} {l : List (List α)} (h : (Kd.slice e d).C w A n l) (i : Nat) (hi : i < n) :
    ∃ b off Ai ci, A = some ⟨b, off, none⟩ ∧ b < w.heap.size ∧ w.cell? ⟨b, off + i, none⟩ = some (.slice Ai (l.getD i []).length ci) ∧ (l.getD i []).length ≤ ci ∧ d.C w Ai (l.getD i []).length (l.getD i []) := by
  obtain ⟨ad, c, e', _, hK, hc⟩ := Kd.C_get h ([] : List α) (i : Int) (by omega) (by omega)
  rw [Int.toNat_natCast] at hK hc
  obtain ⟨Ai, ci, rfl, l0, g0⟩ := hK
  have hq : w.cell? (ad.add (i * 1 + 0)) = some (.slice Ai (l.getD i []).length ci) := hc 0 _ rfl
  rw [Nat.mul_one, Nat.add_zero] at hq
  obtain ⟨b, off, sp⟩ := ad
  have hsp : sp = none := by
    obtain ⟨ad2, c2, e2, _, hK2, hc2⟩ := Kd.C_get h ([] : List α) 0 (by omega) (by omega)
    rw [e'] at e2
    cases e2
    obtain ⟨Ai2, ci2, rfl, _, _⟩ := hK2
    have h2 : w.cell? ((⟨b, off, sp⟩ : Addr).add 0) = _ := hc2 0 _ rfl
    cases sp with
    | none => rfl
    | some q =>
      simp [Addr.add, World.cell?] at h2
      split at h2 <;> simp at h2
  subst hsp
  have ha : (⟨b, off, none⟩ : Addr).add i = ⟨b, off + i, none⟩ := by unfold Addr.add; split <;> simp_all
  rw [ha] at hq
  exact ⟨b, off, Ai, ci, e', World.block_lt_of_cell? w _ hq, hq, l0, g0⟩

/-- A slot's timers are right. -/
def slotB (now order lvl slot : Int) : Int → List S57 → Bool
  | _, [] => true
  | p, x :: xs => if (now + 1 ≤ x.f1 ∧ x.f1 ≤ now + 500) ∧ (p + 1 ≤ x.f2 ∧ x.f2 ≤ order) ∧ (placeP x.f1 now).1 = lvl ∧ (placeP x.f1 now).2 = slot then slotB now order lvl slot x.f2 xs else false
theorem drop_cons {α : Type} (l : List α) (k : Nat) (z : α) (h : k < l.length) : l.drop k = l.getD k z :: l.drop (k + 1) := by
  rw [List.drop_eq_getElem_cons h]
  simp [List.getD_eq_getElem?_getD, List.getElem?_eq_getElem h]

set_option maxHeartbeats 1000000 in
theorem slotOK_calls (now order : Int) (A : Option Addr) (c : Nat) (l : List (List (List S57))) (lvl slot : Nat) (w : World) (hr : Kd.C (Kd.slice 55 (Kd.slice 57 k57)) w A l.length l)
    (hn0 : 0 ≤ now) (hn1 : now ≤ 1000000) (ho1 : order ≤ 1000000) (hl : lvl < l.length) (hs : slot < (l.getD lvl []).length) :
    Calls Try.prog 57 #[.agg #[.int .i64 now, .int .i64 order, .slice A l.length c], .int .i64 lvl, .int .i64 slot] w fun e w' => e = .returned (.bool (slotB now order lvl slot 0 ((l.getD lvl []).getD slot []))) ∧ Below w.heap.size w w' := by
  obtain ⟨b1, o1, A1, c1, rfl, hb1, hc1, hcc1, hr1⟩ := slice_at hr lvl hl
  obtain ⟨b2, o2, A2, c2, rfl, hb2, hc2, hcc2, hr2⟩ := slice_at hr1 slot hs
  have hlen2 : (l.getD lvl []).length ≤ 9223372036854775807 := hr1.2.1
  generalize hlist : (l.getD lvl []).getD slot [] = list at hc2 hcc2 hr2
  have hlen : list.length ≤ 9223372036854775807 := hr2.2.1
  refine calls_of_run (fn := Try.f57) (n := 64) Try.func57 rfl Try.ntmps57 (Nat.le_of_ble_eq_true rfl) ?_
  refine Run.seq (Run.regionL [0, 1] rfl ?_)
  refine WO.box_ 3 (cs := [.int .i64 now, .int .i64 order, .slice (some ⟨b1, o1, none⟩) l.length c]) rfl rfl rfl rfl ?_
  intro g w1 hg hs1 hB hM
  have hbl : Below w.heap.size w w1 := hM.below (Nat.le_refl _) (fun _ h => h.elim)
  refine WO.v 6 rfl rfl (r_assignB rfl rfl) ?_
  refine WO.done (Run.seq (Run.regionL [0] rfl ?_))
  refine WO.v 7 rfl rfl (r_assignI rfl rfl) ?_
  refine WO.done (Run.seq (Run.seq (Run.regionL [0, 1, 2, 3, 4, 5, 6, 7, 8, 9] rfl ?_)))
  refine WO.v 12 rfl rfl (r_fieldAddr rfl rfl Try.underlying29 rfl Try.sizeOf27 rfl) ?_
  refine WO.v 13 rfl rfl (r_load rfl rfl Try.isAgg27 (hB.cell 2 _ rfl)) ?_
  refine WO.v 14 rfl rfl (r_moveI rfl rfl) ?_
  refine WO.v 15 rfl rfl (r_indexAddr rfl rfl rfl Try.underlying27 Try.sizeOf54 (by omega) (by omega) (q := o1 + lvl) (by rw [Int.toNat_natCast, Nat.mul_one])) ?_
  refine WO.v 16 rfl rfl (r_load rfl rfl Try.isAgg54 ((hbl.cell (p := ⟨b1, o1 + lvl, none⟩) hb1).trans hc1)) ?_
  refine WO.v 17 rfl rfl (r_moveI rfl rfl) ?_
  refine WO.v 18 rfl rfl (r_indexAddr rfl rfl rfl Try.underlying54 Try.sizeOf55 (by omega) (by omega) (q := o2 + slot) (by rw [Int.toNat_natCast, Nat.mul_one])) ?_
  refine WO.v 19 rfl rfl (r_load rfl rfl Try.isAgg55 ((hbl.cell (p := ⟨b2, o2 + slot, none⟩) hb2).trans hc2)) ?_
  refine WO.v 20 rfl rfl (r_len (e := 57) rfl rfl Try.underlying55) ?_
  refine WO.v 21 rfl rfl (r_moveI rfl rfl) ?_
  refine WO.done (Run.block ?_)
  refine Run.loopInv (fun m τ wr => ∃ (kk : Nat) (p : Int), kk + m = list.length ∧ τ 1 = .int .i64 lvl ∧ τ 2 = .int .i64 slot ∧ τ 3 = .pointer (some ⟨g, 0, none⟩) ∧ τ 7 = .int .i64 p ∧ τ 19 = .slice A2 list.length c2 ∧ τ 20 = .int .i64 list.length ∧ τ 21 = .int .i64 kk ∧
      0 ≤ p ∧ p ≤ 1000000 ∧ Below w.heap.size w wr ∧ Blk wr g [.int .i64 now, .int .i64 order, .slice (some ⟨b1, o1, none⟩) l.length c] 29 ∧ slotB now order lvl slot 0 list = slotB now order lvl slot p (list.drop kk)) list.length
    ⟨0, 0, by omega, rfl, rfl, rfl, rfl, rfl, rfl, rfl, by omega, by omega, hbl, hB, by simp⟩ ?_
  rintro m τ wr ih ⟨kk, p, hm, h1, h2, h3, h7, h19, h20, h21, hp0, hp1, hbw, hBw, hB0⟩
  refine Run.seq (Run.regionL [0] rfl ?_)
  refine WO.v 22 rfl rfl (r_lss rfl h21 h20 rfl) ?_
  refine WO.done (Run.seq (Run.test rfl (fun hq => ?_) (fun hq => ?_)))
  · have hk : kk < list.length := by omega
    obtain ⟨b3, o3, rfl, hb3⟩ := row_plain hr2 (by omega)
    have hcells := row_cells hr2 kk hk
    rw [drop_cons list kk z57 hk] at hB0
    generalize hx : list.getD kk z57 = x at hcells hB0
    simp only [slotB] at hB0
    refine Run.skip (Run.seq (Run.block (Run.seq (Run.regionL [0, 1, 2, 3] rfl ?_))))
    refine WO.v 23 rfl rfl (r_indexAddr rfl h19 h21 Try.underlying55 Try.sizeOf57 (by omega) hq (q := o3 + kk * 3) (by rw [Int.toNat_natCast])) ?_
    refine WO.v 24 rfl rfl (r_loadK (vs := [.int .i64 x.f0, .int .i64 x.f1, .int .i64 x.f2]) rfl rfl Try.isAgg57 Try.sizeOf57 rfl (fun j u hj => (hbw.cell (p := (⟨b3, o3 + kk * 3, none⟩ : Addr).add j) (by unfold Addr.add; split <;> exact hb3)).trans (hcells j u hj))) ?_
    refine WO.alloc_ 9 rfl rfl rfl Try.zeroValue57 rfl ?_
    intro g2 w2 hg2 hs2 hB2 hM2
    refine WO.storeK_ (vs := [.int .i64 x.f0, .int .i64 x.f1, .int .i64 x.f2]) rfl rfl rfl rfl rfl rfl (by simp [Value.oneCell']) Try.sizeOf57 rfl hB2 rfl ?_
    intro w3 hs3 hB3 hM3
    have hgl := hBw.lt
    have hBw3 := (hBw.mut hM2 (fun h => h)).mut hM3 (by omega)
    have hbw3 : Below w.heap.size w w3 := (hbw.trans (hM2.below hbw.size (fun _ h => h.elim))).trans (hM3.below (by have := hbw.size; have := hM2.size; omega) (fun k hk => by have := hbw.size; omega))
    refine WO.done (Run.seq (Run.seq (Run.regionL [0, 1, 2, 3, 4, 5, 6, 7, 8, 9, 10, 11, 12, 13, 14, 15, 16, 17, 18, 19] rfl ?_)))
    refine WO.v 25 rfl rfl (r_fieldAddr rfl rfl Try.underlying57 rfl Try.sizeOf3 rfl) ?_
    refine WO.v 26 rfl rfl (r_load rfl rfl Try.isAgg3 (hB3.cell 1 _ rfl)) ?_
    refine WO.v 27 rfl rfl (r_fieldAddr rfl h3 Try.underlying29 rfl Try.sizeOf3 rfl) ?_
    refine WO.v 28 rfl rfl (r_load rfl rfl Try.isAgg3 (hBw3.cell 0 _ rfl)) ?_
    refine WO.v 29 rfl rfl (r_add rfl rfl rfl (wrap_in (by omega) (by omega))) ?_
    refine WO.v 30 rfl rfl (r_fieldAddr rfl h3 Try.underlying29 rfl Try.sizeOf3 rfl) ?_
    refine WO.v 31 rfl rfl (r_load rfl rfl Try.isAgg3 (hBw3.cell 0 _ rfl)) ?_
    refine WO.v 32 rfl rfl (r_add rfl rfl rfl (wrap_in (by omega) (by omega))) ?_
    refine WO.call_ 33 rfl rfl Try.call45 (inRange_calls x.f1 (now + 1) (now + 500) w3) rfl rfl ?_
    rintro e w4 ⟨rfl, rfl⟩
    refine ⟨_, rfl, ?_⟩
    by_cases ha : now + 1 ≤ x.f1 ∧ x.f1 ≤ now + 500
    · rw [decide_eq_true ha]
      refine WO.v 34 rfl rfl (r_not rfl rfl rfl) ?_
      refine WO.v 35 rfl rfl (r_moveB rfl rfl) ?_
      refine WO.v 36 rfl rfl (r_fieldAddr rfl rfl Try.underlying57 rfl Try.sizeOf3 rfl) ?_
      refine WO.v 37 rfl rfl (r_load rfl rfl Try.isAgg3 (hB3.cell 2 _ rfl)) ?_
      refine WO.v 38 rfl rfl (r_moveI rfl h7) ?_
      refine WO.v 39 rfl rfl (r_add rfl rfl rfl (wrap_in (by omega) (by omega))) ?_
      refine WO.v 40 rfl rfl (r_fieldAddr rfl h3 Try.underlying29 rfl Try.sizeOf3 rfl) ?_
      refine WO.v 41 rfl rfl (r_load rfl rfl Try.isAgg3 (hBw3.cell 1 _ rfl)) ?_
      refine WO.call_ 42 rfl rfl Try.call45 (inRange_calls x.f2 (p + 1) order w4) rfl rfl ?_
      rintro e w5 ⟨rfl, rfl⟩
      refine ⟨_, rfl, ?_⟩
      by_cases hb : p + 1 ≤ x.f2 ∧ x.f2 ≤ order
      · rw [decide_eq_true hb]
        refine WO.v 43 rfl rfl (r_not rfl rfl rfl) ?_
        refine WO.v 44 rfl rfl (r_pickB rfl rfl rfl) ?_
        refine WO.done (Run.condF rfl (Run.skip (Run.seq (Run.regionL [0, 1, 2, 3, 4, 5, 6, 7, 8, 9] rfl ?_))))
        refine WO.v 46 rfl rfl (r_fieldAddr rfl rfl Try.underlying57 rfl Try.sizeOf3 rfl) ?_
        refine WO.v 47 rfl rfl (r_load rfl rfl Try.isAgg3 (hB3.cell 1 _ rfl)) ?_
        refine WO.v 48 rfl rfl (r_fieldAddr rfl h3 Try.underlying29 rfl Try.sizeOf3 rfl) ?_
        refine WO.v 49 rfl rfl (r_load rfl rfl Try.isAgg3 (hBw3.cell 0 _ rfl)) ?_
        refine WO.call_ 50 rfl rfl Try.call65 (place_calls x.f1 now (by omega) (by omega) (by omega) (by omega) w5) rfl rfl ?_
        rintro e w6 ⟨rfl, rfl⟩
        refine ⟨_, rfl, ?_⟩
        refine WO.v 45 rfl rfl (r_moveT rfl rfl) ?_
        refine WO.v 51 rfl rfl (r_extract rfl rfl rfl) ?_
        refine WO.v 52 rfl rfl (r_extract rfl rfl rfl) ?_
        refine WO.v 10 rfl rfl (r_assignI rfl rfl) ?_
        refine WO.v 11 rfl rfl (r_assignI rfl rfl) ?_
        refine WO.done (Run.seq (Run.seq (Run.regionL [0, 1, 2, 3, 4, 5, 6, 7] rfl ?_)))
        refine WO.v 53 rfl rfl (r_moveI rfl rfl) ?_
        refine WO.v 54 rfl rfl (r_moveI rfl h1) ?_
        by_cases hc : (placeP x.f1 now).1 = lvl
        · refine WO.v 55 rfl rfl (r_neq rfl rfl rfl (decide_eq_false (fun h => h hc))) ?_
          refine WO.v 56 rfl rfl (r_moveB rfl rfl) ?_
          refine WO.v 57 rfl rfl (r_moveI rfl rfl) ?_
          refine WO.v 58 rfl rfl (r_moveI rfl h2) ?_
          by_cases hd : (placeP x.f1 now).2 = slot
          · refine WO.v 59 rfl rfl (r_neq rfl rfl rfl (decide_eq_false (fun h => h hd))) ?_
            refine WO.v 60 rfl rfl (r_pickB rfl rfl rfl) ?_
            refine WO.done (Run.condF rfl (Run.skip (Run.regionL [0, 1, 2] rfl ?_)))
            refine WO.v 61 rfl rfl (r_fieldAddr rfl rfl Try.underlying57 rfl Try.sizeOf3 rfl) ?_
            refine WO.v 62 rfl rfl (r_load rfl rfl Try.isAgg3 (hB3.cell 2 _ rfl)) ?_
            refine WO.v 7 rfl rfl (r_assignI rfl rfl) ?_
            refine WO.done (Run.blockEnd (Run.regionL [0, 1] rfl ?_))
            refine WO.v 63 rfl rfl (r_add rfl h21 rfl (c := (kk : Int) + 1) (wrap_in (by omega) (by omega))) ?_
            refine WO.v 21 rfl rfl (r_moveI rfl rfl) ?_
            refine WO.done (ih (m - 1) _ _ (by omega) ⟨kk + 1, x.f2, by omega, h1, h2, h3, rfl, h19, h20, rfl, by omega, by omega, hbw3, hBw3, ?_⟩)
            rw [hB0, if_pos ⟨ha, hb, hc, hd⟩]
          · refine WO.v 59 rfl rfl (r_neq rfl rfl rfl (decide_eq_true hd)) ?_
            refine WO.v 60 rfl rfl (r_pickB rfl rfl rfl) ?_
            refine WO.done (Run.condT rfl (Run.seq (Run.regionL [0] rfl ?_)))
            refine WO.v 6 rfl rfl (r_assignB rfl rfl) ?_
            refine WO.done (Run.ret1 (v1 := .bool false) Try.func57 Try.results57 rfl ⟨?_, hbw3⟩)
            rw [hB0, if_neg (fun h => hd h.2.2.2)]
        · refine WO.v 55 rfl rfl (r_neq rfl rfl rfl (decide_eq_true hc)) ?_
          refine WO.v 56 rfl rfl (r_moveB rfl rfl) ?_
          refine WO.x 57 rfl rfl ?_
          refine WO.x 58 rfl rfl ?_
          refine WO.x 59 rfl rfl ?_
          refine WO.v 60 rfl rfl (r_pickB rfl rfl rfl) ?_
          refine WO.done (Run.condT rfl (Run.seq (Run.regionL [0] rfl ?_)))
          refine WO.v 6 rfl rfl (r_assignB rfl rfl) ?_
          refine WO.done (Run.ret1 (v1 := .bool false) Try.func57 Try.results57 rfl ⟨?_, hbw3⟩)
          rw [hB0, if_neg (fun h => hc h.2.2.1)]
      · rw [decide_eq_false hb]
        refine WO.v 43 rfl rfl (r_not rfl rfl rfl) ?_
        refine WO.v 44 rfl rfl (r_pickB rfl rfl rfl) ?_
        refine WO.done (Run.condT rfl (Run.seq (Run.regionL [0] rfl ?_)))
        refine WO.v 6 rfl rfl (r_assignB rfl rfl) ?_
        refine WO.done (Run.ret1 (v1 := .bool false) Try.func57 Try.results57 rfl ⟨?_, hbw3⟩)
        rw [hB0, if_neg (fun h => hb h.2.1)]
    · rw [decide_eq_false ha]
      refine WO.v 34 rfl rfl (r_not rfl rfl rfl) ?_
      refine WO.v 35 rfl rfl (r_moveB rfl rfl) ?_
      refine WO.x 36 rfl rfl ?_
      refine WO.x 37 rfl rfl ?_
      refine WO.x 38 rfl rfl ?_
      refine WO.x 39 rfl rfl ?_
      refine WO.x 40 rfl rfl ?_
      refine WO.x 41 rfl rfl ?_
      refine WO.x 42 rfl rfl ?_
      refine WO.x 43 rfl rfl ?_
      refine WO.v 44 rfl rfl (r_pickB rfl rfl rfl) ?_
      refine WO.done (Run.condT rfl (Run.seq (Run.regionL [0] rfl ?_)))
      refine WO.v 6 rfl rfl (r_assignB rfl rfl) ?_
      refine WO.done (Run.ret1 (v1 := .bool false) Try.func57 Try.results57 rfl ⟨?_, hbw3⟩)
      rw [hB0, if_neg (fun h => ha h.1)]
  · refine Run.exit rfl (Run.seq (Run.regionL [0] rfl ?_))
    refine WO.v 6 rfl rfl (r_assignB rfl rfl) ?_
    refine WO.done (Run.ret1 (v1 := .bool true) Try.func57 Try.results57 rfl ⟨?_, hbw⟩)
    rw [hB0, List.drop_eq_nil_of_le (by omega)]
    rfl
end Go.Proofs.Ytojpimpfpjhflaa.Wh
namespace Go.Proofs.Ytojpimpfpjhflaa.Wh
open Go.RowKit Go.Proofs.Ytojpimpfpjhflaa.Fw Go.Proofs.YtojpimpfpjhflaaW.PrintWords Go.Proofs.Ytojpimpfpjhflaa.PFnExactWheelOK
set_option linter.unusedVariables false
set_option linter.unusedSimpArgs false

def encT (x : S57) : List Value := [.int .i64 x.f0, .int .i64 x.f1, .int .i64 x.f2]
def flatT (ts : List S57) : List Value := ts.flatMap encT
theorem flatT_length (ts : List S57) : (flatT ts).length = ts.length * 3 := by
  induction ts with
  | nil => rfl
  | cons x xs ih => simp only [flatT, List.flatMap_cons, List.length_append, encT, List.length_cons, List.length_nil] at *; omega
theorem flatT_append (a b : List S57) : flatT (a ++ b) = flatT a ++ flatT b := by simp [flatT]
theorem flatT_one (ts : List S57) : ∀ u ∈ flatT ts, u.oneCell' = true := by
  intro u hu
  simp only [flatT, List.mem_flatMap, encT] at hu
  obtain ⟨x, _, hx⟩ := hu
  simp at hx
  rcases hx with rfl | rfl | rfl <;> rfl
theorem flatT_get (ts : List S57) (j r : Nat) (hr : r < 3) (hj : j < ts.length) : (flatT ts)[j * 3 + r]? = (encT (ts.getD j z57))[r]? := by
  induction ts generalizing j with
  | nil => simp at hj
  | cons x xs ih =>
    cases j with
    | zero =>
      simp only [flatT, List.flatMap_cons, Nat.zero_mul, Nat.zero_add]
      rw [List.getElem?_append_left (by simp [encT]; omega)]
      rfl
    | succ j =>
      simp only [flatT, List.flatMap_cons]
      rw [List.getElem?_append_right (by simp [encT]; omega)]
      have := ih j (by simpa using hj)
      simp only [flatT] at this
      rw [show (j + 1) * 3 + r - (encT x).length = j * 3 + r from by simp [encT]; omega, this]
      rfl
/-- A row that is read, as cells. -/
theorem row_flat {w : World} {b off : Nat} {l : List S57} (h : Kd.C k57 w (some ⟨b, off, none⟩) l.length l) (j : Nat) (u : Value) (hj : (flatT l)[j]? = some u) : w.cell? ((⟨b, off, none⟩ : Addr).add j) = some u := by
  have hjl : j < l.length * 3 := by
    have := (List.getElem?_eq_some_iff.1 hj).1
    rwa [flatT_length] at this
  have hj3 : j / 3 < l.length := by omega
  have h1 := row_cells h (j / 3) hj3 (j % 3) u (by
    have := flatT_get l (j / 3) (j % 3) (by omega) hj3
    rw [show j / 3 * 3 + j % 3 = j from by omega, hj] at this
    exact this.symm)
  rw [show (⟨b, off, none⟩ : Addr).add j = (⟨b, off + j / 3 * 3, none⟩ : Addr).add (j % 3) from by
    unfold Addr.add
    split <;> split <;> simp <;> omega]
  exact h1
/-- A row of the call's own reads as a row. -/
theorem own_reads_T {w : World} {base : Nat} {v : Value} {ts : List S57} (h : w.ownsRow base 57 3 v ts.length (flatT ts)) : ∃ A c, v = .slice A ts.length c ∧ Kd.C k57 w A ts.length ts := by
  obtain ⟨A, c, rfl, hc⟩ := own_slice_ h
  refine ⟨A, c, rfl, rfl, own_bound h, fun hn => ?_⟩
  obtain ⟨g, c', he, _, _, _, hcell⟩ := own_at h hn
  cases he
  refine ⟨_, rfl, fun j p hp => ⟨encT p, rfl, k57_mk w p, fun r u hr => ?_⟩⟩
  have hj : j < ts.length := (List.getElem?_eq_some_iff.1 hp).1
  have hr3 : r < 3 := (List.getElem?_eq_some_iff.1 hr).1
  have e : (⟨g, 0, none⟩ : Addr).add (j * k57.sz + r) = ⟨g, j * 3 + r, none⟩ := by
    show (⟨g, 0, none⟩ : Addr).add (j * 3 + r) = _
    unfold Addr.add
    split <;> simp_all
  rw [e]
  refine hcell _ _ ?_
  rw [flatT_get ts j r hr3 hj]
  have : ts.getD j z57 = p := by simp [List.getD_eq_getElem?_getD, hp]
  rw [this]
  exact hr

/-- What is asked of the sort (by the shelf). -/
def SortSaid : Prop := ∀ (v : Value) (ts : List S57) (w : World) (base : Nat), w.ownsRow base 57 3 v ts.length (flatT ts) → (∀ x ∈ ts, 0 ≤ x.f2 ∧ x.f2 ≤ 1000000) → ts.length ≤ 60 →
  Calls Try.prog 58 #[v, .func (.func 59) #[] #[]] w fun e w' => e = .returned (.tuple #[]) ∧ ∃ ts', ts'.Perm ts ∧ ts'.Pairwise (fun a b => a.f2 ≤ b.f2) ∧ w'.ownsRow base 57 3 v ts'.length (flatT ts') ∧ Mut (fun k => some k = v.ownBlock) w w'

/-! ### what a right wheel is -/
def levelB (now order : Int) (lvl : Nat) (slots : List (List S57)) : Prop := slots.length = 8 ∧ ∀ s : Nat, s < 8 → slotB now order lvl s 0 (slots.getD s []) = true
structure Good (now order : Int) (lv : List (List (List S57))) : Prop where
  n0 : 0 ≤ now
  n1 : now ≤ 1000000
  o0 : 0 ≤ order
  o1 : order ≤ 1000000
  three : lv.length = 3
  level : ∀ l, l < 3 → levelB now order l (lv.getD l [])
  few : lv.flatten.flatten.length ≤ 60
  ids : (lv.flatten.flatten.map (·.f0)).Nodup
  orders : (lv.flatten.flatten.map (·.f2)).Nodup

/-- The world within unwind. -/
structure UW (w wr : World) (now order : Int) (V : Value) (v : Value) (ts : List S57) : Prop where
  below : Below w.heap.size w wr
  size : w.heap.size + 3 ≤ wr.heap.size
  b1 : Blk wr w.heap.size [.int .i64 now, .int .i64 order, V] 29
  b2 : Blk wr (w.heap.size + 1) [.int .i64 0, .int .i64 0, .slice none 0 0] 69
  b4 : Blk wr (w.heap.size + 2) [.int .i64 now, .int .i64 order, v] 69
  own : wr.ownsRow (w.heap.size + 3) 57 3 v ts.length (flatT ts)
theorem UW.grow {w wr w2 : World} {now order : Int} {V v : Value} {ts : List S57} (h : UW w wr now order V v ts) (hb : Below wr.heap.size wr w2) : UW w w2 now order V v ts :=
  have hm := Mut.of_below hb
  ⟨h.below.trans (hb.mono h.below.size), Nat.le_trans h.size hb.size, h.b1.mut hm (fun h => h), h.b2.mut hm (fun h => h), h.b4.mut hm (fun h => h), own_mut h.own hm (fun _ _ h => h)⟩
end Go.Proofs.Ytojpimpfpjhflaa.Wh
namespace Go.Proofs.Ytojpimpfpjhflaa.Wh
open Go.RowKit Go.Proofs.Ytojpimpfpjhflaa.Fw Go.Proofs.YtojpimpfpjhflaaW.PrintWords Go.Proofs.Ytojpimpfpjhflaa.PFnExactWheelOK
set_option linter.unusedVariables false
set_option linter.unusedSimpArgs false

def o57 : Ow k57 := Ow.iso (Ow.pair (Ow.int .i64) (Ow.pair (Ow.int .i64) (Ow.int .i64))) _
theorem flat57 : Flat o57 := flat_iso _ (flat_pair (flat_int _) (flat_pair (flat_int _) (flat_int _)))
abbrev RT (A : Option Addr) (c : Nat) (ts : List S57) : Asn := Rw o57 57 (.slice A ts.length c) ts

theorem take_flat {α : Type} (l : List (List α)) (j : Nat) (h : j < l.length) : (l.take (j + 1)).flatten = (l.take j).flatten ++ l.getD j [] := by
  rw [List.take_add_one, List.getElem?_eq_getElem h, Option.toList_some, List.flatten_append, List.getD_eq_getElem?_getD, List.getElem?_eq_getElem h, Option.getD_some]
  congr 1
  exact List.append_nil _
theorem flat_le {α : Type} (l : List (List α)) (j : Nat) : (l.take j).flatten.length ≤ l.flatten.length := by
  conv => rhs; rw [← List.take_append_drop j l, List.flatten_append, List.length_append]
  omega

/-- The first place of a number. -/
theorem fidx_le (ts : List S57) : ∀ i, i < ts.length → ∃ k : Nat, k ≤ i ∧ fidx (ts.getD i z57).f0 ts = k ∧ (ts.getD k z57).f0 = (ts.getD i z57).f0 ∧ ∀ j, j < k → (ts.getD j z57).f0 ≠ (ts.getD i z57).f0 := by
  intro i hi
  have key : ∀ N k, N = i - k → k ≤ i → (∀ j, j < k → (ts.getD j z57).f0 ≠ (ts.getD i z57).f0) → ∃ k : Nat, k ≤ i ∧ (ts.getD k z57).f0 = (ts.getD i z57).f0 ∧ ∀ j, j < k → (ts.getD j z57).f0 ≠ (ts.getD i z57).f0 := by
    intro N
    induction N with
    | zero => intro k h1 h2 h3; exact ⟨i, Nat.le_refl _, rfl, fun j hj => h3 j (by omega)⟩
    | succ N ih =>
      intro k h1 h2 h3
      by_cases e : (ts.getD k z57).f0 = (ts.getD i z57).f0
      · exact ⟨k, h2, e, h3⟩
      · exact ih (k + 1) (by omega) (by omega) (fun j hj => by
          by_cases ej : j = k
          · rw [ej]; exact e
          · exact h3 j (by omega))
  obtain ⟨k, h1, h2, h3⟩ := key _ 0 rfl (Nat.zero_le _) (fun j hj => absurd hj (Nat.not_lt_zero _))
  refine ⟨k, h1, ?_, h2, h3⟩
  unfold fidx idxP
  rw [idxFrom_at _ ts k 0 (by omega) (fun j hj => decide_eq_false (h3 j hj)) (decide_eq_true h2), Nat.zero_add]
theorem getD_map {β : Type} (f : S57 → β) (ts : List S57) (i : Nat) (hi : i < ts.length) : (ts.map f)[i]? = some (f (ts.getD i z57)) := by
  simp [List.getD_eq_getElem?_getD, List.getElem?_eq_getElem hi]
def TOK (ts : List S57) (i : Nat) : Prop := (0 < i → (ts.getD (i - 1) z57).f2 ≠ (ts.getD i z57).f2) ∧ fidx (ts.getD i z57).f0 ts = i
theorem pair_le {ts : List S57} (hs : ts.Pairwise (fun a b => a.f2 ≤ b.f2)) {i j : Nat} (hij : i < j) (hj : j < ts.length) : (ts.getD i z57).f2 ≤ (ts.getD j z57).f2 := by
  have := List.pairwise_iff_getElem.1 hs i j (by omega) hj hij
  simpa [List.getD_eq_getElem?_getD, List.getElem?_eq_getElem, hj, show i < ts.length by omega] using this
theorem nodup_map {β : Type} (f : S57 → β) (ts : List S57) (h : ∀ i j, i < j → j < ts.length → f (ts.getD i z57) ≠ f (ts.getD j z57)) : (ts.map f).Nodup := by
  refine List.pairwise_iff_getElem.2 fun i j hi hj hij => ?_
  have := h i j hij (by simpa using hj)
  have hi' : i < ts.length := by simpa using hi
  have hj' : j < ts.length := by simpa using hj
  simpa [List.getD_eq_getElem?_getD, List.getElem?_eq_getElem, hi', hj'] using this
theorem of_nodup_map {β : Type} (f : S57 → β) (ts : List S57) (h : (ts.map f).Nodup) (i j : Nat) (hij : i < j) (hj : j < ts.length) : f (ts.getD i z57) ≠ f (ts.getD j z57) := by
  have hi' : i < ts.length := by omega
  have := List.pairwise_iff_getElem.1 h i j (by simpa using hi') (by simpa using hj) hij
  simpa [List.getD_eq_getElem?_getD, List.getElem?_eq_getElem, hi', hj] using this
theorem tok_nodup (ts : List S57) (h : ∀ i, i < ts.length → TOK ts i) (hs : ts.Pairwise (fun a b => a.f2 ≤ b.f2)) : (ts.map (·.f0)).Nodup ∧ (ts.map (·.f2)).Nodup := by
  constructor
  · refine nodup_map _ ts fun i j hij hj e => ?_
    obtain ⟨k, h1, h2, h3, h4⟩ := fidx_le ts j hj
    have := (h j hj).2
    rw [h2] at this
    exact h4 i (by omega) e
  · refine nodup_map _ ts fun i j hij hj e => ?_
    have h1 := pair_le hs (i := j - 1) (j := j) (by omega) hj
    have h2 := (h j hj).1 (by omega)
    have h3 : (ts.getD i z57).f2 ≤ (ts.getD (j - 1) z57).f2 := by
      by_cases e : i = j - 1
      · rw [e]; exact Int.le_refl _
      · exact pair_le hs (by omega) (by omega)
    have e' : (ts.getD i z57).f2 = (ts.getD j z57).f2 := e
    omega
theorem not_tok (ts : List S57) (i : Nat) (hi : i < ts.length) (h : ¬ TOK ts i) : ¬ ((ts.map (·.f0)).Nodup ∧ (ts.map (·.f2)).Nodup) := by
  rintro ⟨a, b⟩
  refine h ⟨fun h0 => of_nodup_map _ ts b (i - 1) i (by omega) hi, ?_⟩
  obtain ⟨k, h1, h2, h3, h4⟩ := fidx_le ts i hi
  rw [h2]
  by_cases e : k = i
  · rw [e]
  · exact absurd h3 (of_nodup_map _ ts a k i (by omega) hi)

/-- slices.SortFunc at timers, by their orders. -/
def SortRw : Prop := ∀ (A : Option Addr) (c : Nat) (ts : List S57) (w : World), (∀ x ∈ ts, 0 ≤ x.f2 ∧ x.f2 ≤ 1000000) → ts.length ≤ 60 →
  Tri Try.prog 58 #[.slice A ts.length c, .func (.func 59) #[] #[]] w [RT A c ts] fun e LQ => e = .returned (.tuple #[]) ∧ ∃ ts', ts'.Perm ts ∧ ts'.Pairwise (fun a b => a.f2 ≤ b.f2) ∧ LQ = [RT A c ts']
theorem slotB_orders (now order lvl slot : Int) : ∀ (p : Int) (l : List S57), 0 ≤ p → slotB now order lvl slot p l = true → ∀ x ∈ l, 0 ≤ x.f2 ∧ x.f2 ≤ order
  | p, [], _, _, x, hx => absurd hx List.not_mem_nil
  | p, y :: ys, hp, h, x, hx => by
    unfold slotB at h
    split at h
    · rename_i hc
      rcases List.mem_cons.1 hx with rfl | hx
      · omega
      · exact slotB_orders now order lvl slot y.f2 ys (by omega) h x hx
    · cases h
def UQ (now order : Int) (lv : List (List (List S57))) (e : Ending) (LQ : List Asn) : Prop :=
  ∃ A c ts b, e = .returned (.tuple #[.agg #[.int .i64 now, .int .i64 order, .slice A ts.length c], .bool b]) ∧ LQ = [RT A c ts] ∧
    (b = true → Good now order lv ∧ ts.Perm lv.flatten.flatten ∧ ts.Pairwise (fun a b => a.f2 ≤ b.f2)) ∧ (b = false → ¬ Good now order lv)
end Go.Proofs.Ytojpimpfpjhflaa.Wh
namespace Go.Proofs.Ytojpimpfpjhflaa.Wh
open Go.RowKit Go.Proofs.Ytojpimpfpjhflaa.Fw Go.Proofs.YtojpimpfpjhflaaW.PrintWords Go.Proofs.Ytojpimpfpjhflaa.PFnExactWheelOK
set_option linter.unusedVariables false
set_option linter.unusedSimpArgs false
abbrev o55 : Ow (Kd.slice 57 k57) := Ow.slice 57 o57
abbrev o54 : Ow (Kd.slice 55 (Kd.slice 57 k57)) := Ow.slice 55 o55
def cv (x : S111) : S57 := ⟨x.f0, x.f1, x.f2⟩
def szS (l : List S111) : Nat := l.length + sumOf (fun _ => 0) l
def szSS (l : List (List S111)) : Nat := l.length + sumOf szS l
def szSSS (l : List (List (List S111))) : Nat := l.length + sumOf szSS l

theorem toTimer_tri (x : S111) (w : World) : Tri Try.prog 79 #[.agg #[.int .i64 x.f0, .int .i64 x.f1, .int .i64 x.f2]] w [] fun e LQ => e = .returned (.agg #[.int .i64 x.f0, .int .i64 x.f1, .int .i64 x.f2]) ∧ LQ = [] := by
  refine tri_of_run0 (fn := Try.f79) (n := 14) Try.func79 rfl Try.ntmps79 (Nat.le_of_ble_eq_true rfl) fun H => ?_
  refine Run.seq (Run.regionL [0, 1] rfl ?_)
  refine WO.sbox 1 (cs := [.int .i64 x.f0, .int .i64 x.f1, .int .i64 x.f2]) rfl rfl rfl rfl H ?_
  intro g1 w1 H1
  refine WO.salloc 2 (cs := [.int .i64 0, .int .i64 0, .int .i64 0]) rfl rfl rfl Try.zeroValue57 rfl H1 ?_
  intro g2 w2 H2
  refine WO.done (Run.seq (Run.regionL [0] rfl ?_))
  refine WO.salloc 3 (cs := [.int .i64 0, .int .i64 0, .int .i64 0]) rfl rfl rfl Try.zeroValue57 rfl H2 ?_
  intro g3 w3 H3
  refine WO.done (Run.seq (Run.regionL [0, 1, 2, 3] rfl ?_))
  refine WO.v 4 rfl rfl (r_fieldAddr rfl rfl Try.underlying111 rfl Try.sizeOf3 (q := 0) rfl) ?_
  refine WO.v 5 rfl rfl (r_load rfl rfl Try.isAgg3 (H3.cell p2 rfl)) ?_
  refine WO.v 6 rfl rfl (r_fieldAddr rfl rfl Try.underlying57 rfl Try.sizeOf3 (q := 0) rfl) ?_
  refine WO.sstore rfl rfl rfl rfl rfl rfl Try.sizeOf3 H3 p0 .z ?_
  intro w4 H4
  refine WO.done (Run.seq (Run.regionL [0, 1, 2, 3] rfl ?_))
  refine WO.v 7 rfl rfl (r_fieldAddr rfl rfl Try.underlying111 rfl Try.sizeOf3 (q := 1) rfl) ?_
  refine WO.v 8 rfl rfl (r_load rfl rfl Try.isAgg3 (H4.cell p2 rfl)) ?_
  refine WO.v 9 rfl rfl (r_fieldAddr rfl rfl Try.underlying57 rfl Try.sizeOf3 (q := 1) rfl) ?_
  refine WO.sstore rfl rfl rfl rfl rfl rfl Try.sizeOf3 H4 p0 (.s .z) ?_
  intro w5 H5
  refine WO.done (Run.seq (Run.regionL [0, 1, 2, 3] rfl ?_))
  refine WO.v 10 rfl rfl (r_fieldAddr rfl rfl Try.underlying111 rfl Try.sizeOf3 (q := 2) rfl) ?_
  refine WO.v 11 rfl rfl (r_load rfl rfl Try.isAgg3 (H5.cell p2 rfl)) ?_
  refine WO.v 12 rfl rfl (r_fieldAddr rfl rfl Try.underlying57 rfl Try.sizeOf3 (q := 2) rfl) ?_
  refine WO.sstore rfl rfl rfl rfl rfl rfl Try.sizeOf3 H5 p0 (.s (.s .z)) ?_
  intro w6 H6
  refine WO.done (Run.seq (Run.regionL [0, 1] rfl ?_))
  refine WO.v 13 rfl rfl (r_loadK (vs := [.int .i64 x.f0, .int .i64 x.f1, .int .i64 x.f2]) rfl rfl Try.isAgg57 Try.sizeOf57 rfl (H6.cells p0)) ?_
  refine WO.sstoreK (vs := [.int .i64 x.f0, .int .i64 x.f1, .int .i64 x.f2]) rfl rfl rfl rfl rfl rfl rfl Try.sizeOf57 rfl H6 p1 rfl ?_
  intro wS HS
  exact WO.done (Run.ret1 Try.func79 Try.results79 ⟨_, rfl, run_loadVarK Try.isAgg57 Try.sizeOf57 rfl (HS.cells p1)⟩ ⟨[], ⟨rfl, rfl⟩, HS.sel .n⟩)
theorem toTimerS_tri (A : Option Addr) (c : Nat) (l : List S111) (w : World) (hr : Kd.C k111 w A l.length l) (hs : szS l ≤ 1048576) :
    Tri Try.prog 70 #[.slice A l.length c] w [] fun e LQ => ∃ A' c', e = .returned (.slice A' (l.map cv).length c') ∧ LQ = [Rw o57 57 (.slice A' (l.map cv).length c') (l.map cv)] := by
  have hl : l.length ≤ 1048576 := by unfold szS at hs; omega
  refine tri_of_run0 (fn := Try.f70) (n := 23) Try.func70 rfl Try.ntmps70 (Nat.le_of_ble_eq_true rfl) fun H => ?_
  refine Run.seq (Run.regionL [0] rfl ?_)
  refine WO.v 2 rfl rfl (r_assignL rfl rfl) ?_
  refine WO.done (Run.seq (Run.regionL [0, 1, 2, 3] rfl ?_))
  refine WO.v 5 rfl rfl (r_moveL rfl rfl) ?_
  refine WO.v 6 rfl rfl (r_len (e := 111) rfl rfl Try.underlying100) ?_
  refine WO.smake 7 (ow := o57) z57 rfl rfl rfl rfl rfl Try.underlying55 info57 rfl (Nat.succ_pos _) (Nat.succ_pos _) (fun _ => flat57 (k57_mk _ z57)) H (by omega) ?_
  intro g w1 H1
  refine WO.v 3 rfl rfl (r_assignL rfl rfl) ?_
  refine WO.done (Run.seq (Run.seq (Run.regionL [0] rfl ?_)))
  refine WO.v 4 rfl rfl (r_assignI rfl rfl) ?_
  refine WO.done (Run.block ?_)
  refine Run.loopInv (fun m τ wr => ∃ (i : Nat) (xs : List S57), i + m = l.length ∧ xs.length = l.length ∧ (∀ j, j < i → xs[j]? = some (cv (l.getD j z111))) ∧ τ 0 = .slice A l.length c ∧ τ 3 = .slice (some ⟨g, 0, none⟩) xs.length l.length ∧ τ 4 = .int .i64 i ∧
      St w Em [Rw o57 57 (.slice (some ⟨g, 0, none⟩) xs.length l.length) xs] wr) l.length ⟨0, List.replicate l.length z57, by omega, by simp, fun j hj => absurd hj (Nat.not_lt_zero _), rfl, rfl, rfl, H1⟩ ?_
  rintro m τ wr ih ⟨i, xs, hm, hx, hxi, h0, h3, h4, H⟩
  refine Run.seq (Run.seq (Run.regionL [0, 1, 2, 3] rfl ?_))
  refine WO.v 8 rfl rfl (r_moveI rfl h4) ?_
  refine WO.v 9 rfl rfl (r_moveL rfl h0) ?_
  refine WO.v 10 rfl rfl (r_len (e := 111) rfl rfl Try.underlying100) ?_
  refine WO.v 11 rfl rfl (r_lss rfl rfl rfl rfl) ?_
  refine WO.done (Run.test rfl (fun hq => ?_) (fun hq => ?_))
  · have hi : i < l.length := by omega
    have hsi := sumOf_le (fun _ => 0) l z111 i hi
    obtain ⟨b, off, cs, rfl, hb, hcl, hk, hc⟩ := row_at (Kd.C_below hr H.below) z111 i hi (Nat.succ_pos _)
    obtain rfl := k111_open hk
    refine Run.skip (Run.seq (Run.block (Run.regionL [0, 1, 2, 3, 4, 5, 6, 7, 8] rfl ?_)))
    refine WO.v 14 rfl rfl (r_moveL rfl h3) ?_
    refine WO.v 15 rfl rfl (r_moveI rfl h4) ?_
    refine WO.v 16 rfl rfl (r_moveL rfl h0) ?_
    refine WO.v 17 rfl rfl (r_moveI rfl h4) ?_
    refine WO.v 18 rfl rfl (r_indexAddr rfl rfl rfl Try.underlying100 Try.sizeOf111 (by omega) hq (q := off + i * 3) (by rw [Int.toNat_natCast])) ?_
    refine WO.v 19 rfl rfl (r_loadK (vs := [.int .i64 (l.getD i z111).f0, .int .i64 (l.getD i z111).f1, .int .i64 (l.getD i z111).f2]) rfl rfl Try.isAgg111 Try.sizeOf111 rfl hc) ?_
    refine WO.scall 20 rfl rfl Try.call79 H .n (toTimer_tri (l.getD i z111) wr) rfl rfl ?_
    rintro e LQ w2 ⟨rfl, rfl⟩ H2
    refine ⟨_, rfl, ?_⟩
    have H3 := H2.elF flat57 (k57_mk w2 (cv (l.getD i z111)))
    refine WO.v 21 rfl rfl (r_indexAddr rfl rfl rfl Try.underlying55 Try.sizeOf57 (by omega) (by omega) (q := 0 + i * 3) (by rw [Int.toNat_natCast])) ?_
    refine WO.sput rfl rfl rfl rfl rfl rfl Try.sizeOf57 rfl H3 p0 (j := i) (by omega) (Nat.zero_add _) ?_
    intro w3 H4
    refine WO.done (Run.blockEnd (Run.regionL [0, 1, 2] rfl ?_))
    refine WO.v 12 rfl rfl (r_moveI rfl h4) ?_
    refine WO.v 13 rfl rfl (r_add rfl rfl rfl (c := (i : Int) + 1) (wrap_in (by omega) (by omega))) ?_
    refine WO.v 4 rfl rfl (r_assignI rfl rfl) ?_
    exact WO.done (ih (m - 1) _ _ (by omega) ⟨i + 1, xs.set i (cv (l.getD i z111)), by omega, by rw [List.length_set]; exact hx, set_at (f := fun j => cv (l.getD j z111)) (by omega) rfl hxi, h0, by rw [List.length_set]; exact h3, rfl, by rw [List.length_set]; exact H4⟩)
  · obtain rfl := map_of_at (conv := cv) z111 hx (fun j hj => hxi j (by omega))
    refine Run.exit rfl (Run.seq (Run.regionL [0, 1] rfl ?_))
    refine WO.v 22 rfl rfl (r_moveL rfl h3) ?_
    refine WO.v 2 rfl rfl (r_assignL rfl rfl) ?_
    exact WO.done (Run.ret1 Try.func70 Try.results70 rfl ⟨_, ⟨_, _, rfl, rfl⟩, H⟩)
theorem toTimerSS_tri (A : Option Addr) (c : Nat) (l : List (List S111)) (w : World) (hr : Kd.C (Kd.slice 111 k111) w A l.length l) (hs : szSS l ≤ 1048576) :
    Tri Try.prog 56 #[.slice A l.length c] w [] fun e LQ => ∃ A' c', e = .returned (.slice A' (l.map (List.map cv)).length c') ∧ LQ = [Rw o55 55 (.slice A' (l.map (List.map cv)).length c') (l.map (List.map cv))] := by
  have hl : l.length ≤ 1048576 := by unfold szSS at hs; omega
  refine tri_of_run0 (fn := Try.f56) (n := 23) Try.func56 rfl Try.ntmps56 (Nat.le_of_ble_eq_true rfl) fun H => ?_
  refine Run.seq (Run.regionL [0] rfl ?_)
  refine WO.v 2 rfl rfl (r_assignL rfl rfl) ?_
  refine WO.done (Run.seq (Run.regionL [0, 1, 2, 3] rfl ?_))
  refine WO.v 5 rfl rfl (r_moveL rfl rfl) ?_
  refine WO.v 6 rfl rfl (r_len (e := 100) rfl rfl Try.underlying87) ?_
  refine WO.smake 7 (ow := o55) [] rfl rfl rfl rfl rfl Try.underlying54 info55 rfl (Nat.succ_pos _) (Nat.succ_pos _) (fun _ => ⟨.slice none 0 0, rfl, [], fun k hk => by simp [Value.ownBlock] at hk, World.ownsRow_nil _ _ _ _, trivial⟩) H (by omega) ?_
  intro g w1 H1
  refine WO.v 3 rfl rfl (r_assignL rfl rfl) ?_
  refine WO.done (Run.seq (Run.seq (Run.regionL [0] rfl ?_)))
  refine WO.v 4 rfl rfl (r_assignI rfl rfl) ?_
  refine WO.done (Run.block ?_)
  refine Run.loopInv (fun m τ wr => ∃ (i : Nat) (xs : List (List S57)), i + m = l.length ∧ xs.length = l.length ∧ (∀ j, j < i → xs[j]? = some ((List.map cv) (l.getD j []))) ∧ τ 0 = .slice A l.length c ∧ τ 3 = .slice (some ⟨g, 0, none⟩) xs.length l.length ∧ τ 4 = .int .i64 i ∧
      St w Em [Rw o55 55 (.slice (some ⟨g, 0, none⟩) xs.length l.length) xs] wr) l.length ⟨0, List.replicate l.length [], by omega, by simp, fun j hj => absurd hj (Nat.not_lt_zero _), rfl, rfl, rfl, H1⟩ ?_
  rintro m τ wr ih ⟨i, xs, hm, hx, hxi, h0, h3, h4, H⟩
  refine Run.seq (Run.seq (Run.regionL [0, 1, 2, 3] rfl ?_))
  refine WO.v 8 rfl rfl (r_moveI rfl h4) ?_
  refine WO.v 9 rfl rfl (r_moveL rfl h0) ?_
  refine WO.v 10 rfl rfl (r_len (e := 100) rfl rfl Try.underlying87) ?_
  refine WO.v 11 rfl rfl (r_lss rfl rfl rfl rfl) ?_
  refine WO.done (Run.test rfl (fun hq => ?_) (fun hq => ?_))
  · have hi : i < l.length := by omega
    have hsi := sumOf_le szS l [] i hi
    obtain ⟨b, off, cs, rfl, hb, hcl, hk, hc⟩ := row_at (Kd.C_below hr H.below) [] i hi (Nat.succ_pos _)
    obtain ⟨Ai, ci, rfl, hci, hri⟩ := hk
    refine Run.skip (Run.seq (Run.block (Run.regionL [0, 1, 2, 3, 4, 5, 6, 7, 8] rfl ?_)))
    refine WO.v 14 rfl rfl (r_moveL rfl h3) ?_
    refine WO.v 15 rfl rfl (r_moveI rfl h4) ?_
    refine WO.v 16 rfl rfl (r_moveL rfl h0) ?_
    refine WO.v 17 rfl rfl (r_moveI rfl h4) ?_
    refine WO.v 18 rfl rfl (r_indexAddr rfl rfl rfl Try.underlying87 Try.sizeOf100 (by omega) hq (q := off + i * 1) (by rw [Int.toNat_natCast])) ?_
    refine WO.v 19 rfl rfl (r_load rfl rfl Try.isAgg100 (hc 0 _ rfl)) ?_
    refine WO.scall 20 rfl rfl Try.call70 H .n (toTimerS_tri Ai ci (l.getD i []) wr hri (by unfold szSS at hs; omega)) rfl rfl ?_
    rintro e LQ w2 ⟨A2, c2, rfl, rfl⟩ H2
    refine ⟨_, rfl, ?_⟩
    have H3 := H2.elR p0
    refine WO.v 21 rfl rfl (r_indexAddr rfl rfl rfl Try.underlying54 Try.sizeOf55 (by omega) (by omega) (q := 0 + i * 1) (by rw [Int.toNat_natCast])) ?_
    refine WO.sput rfl rfl rfl rfl rfl rfl Try.sizeOf55 rfl H3 p0 (j := i) (by omega) (Nat.zero_add _) ?_
    intro w3 H4
    refine WO.done (Run.blockEnd (Run.regionL [0, 1, 2] rfl ?_))
    refine WO.v 12 rfl rfl (r_moveI rfl h4) ?_
    refine WO.v 13 rfl rfl (r_add rfl rfl rfl (c := (i : Int) + 1) (wrap_in (by omega) (by omega))) ?_
    refine WO.v 4 rfl rfl (r_assignI rfl rfl) ?_
    exact WO.done (ih (m - 1) _ _ (by omega) ⟨i + 1, xs.set i ((List.map cv) (l.getD i [])), by omega, by rw [List.length_set]; exact hx, set_at (f := fun j => (List.map cv) (l.getD j [])) (by omega) rfl hxi, h0, by rw [List.length_set]; exact h3, rfl, by rw [List.length_set]; exact H4⟩)
  · obtain rfl := map_of_at (conv := (List.map cv)) [] hx (fun j hj => hxi j (by omega))
    refine Run.exit rfl (Run.seq (Run.regionL [0, 1] rfl ?_))
    refine WO.v 22 rfl rfl (r_moveL rfl h3) ?_
    refine WO.v 2 rfl rfl (r_assignL rfl rfl) ?_
    exact WO.done (Run.ret1 Try.func56 Try.results56 rfl ⟨_, ⟨_, _, rfl, rfl⟩, H⟩)
theorem toTimerSSS_tri (A : Option Addr) (c : Nat) (l : List (List (List S111))) (w : World) (hr : Kd.C (Kd.slice 100 (Kd.slice 111 k111)) w A l.length l) (hs : szSSS l ≤ 1048576) :
    Tri Try.prog 37 #[.slice A l.length c] w [] fun e LQ => ∃ A' c', e = .returned (.slice A' (l.map (List.map (List.map cv))).length c') ∧ LQ = [Rw o54 54 (.slice A' (l.map (List.map (List.map cv))).length c') (l.map (List.map (List.map cv)))] := by
  have hl : l.length ≤ 1048576 := by unfold szSSS at hs; omega
  refine tri_of_run0 (fn := Try.f37) (n := 23) Try.func37 rfl Try.ntmps37 (Nat.le_of_ble_eq_true rfl) fun H => ?_
  refine Run.seq (Run.regionL [0] rfl ?_)
  refine WO.v 2 rfl rfl (r_assignL rfl rfl) ?_
  refine WO.done (Run.seq (Run.regionL [0, 1, 2, 3] rfl ?_))
  refine WO.v 5 rfl rfl (r_moveL rfl rfl) ?_
  refine WO.v 6 rfl rfl (r_len (e := 87) rfl rfl Try.underlying22) ?_
  refine WO.smake 7 (ow := o54) [] rfl rfl rfl rfl rfl Try.underlying27 info54 rfl (Nat.succ_pos _) (Nat.succ_pos _) (fun _ => ⟨.slice none 0 0, rfl, [], fun k hk => by simp [Value.ownBlock] at hk, World.ownsRow_nil _ _ _ _, trivial⟩) H (by omega) ?_
  intro g w1 H1
  refine WO.v 3 rfl rfl (r_assignL rfl rfl) ?_
  refine WO.done (Run.seq (Run.seq (Run.regionL [0] rfl ?_)))
  refine WO.v 4 rfl rfl (r_assignI rfl rfl) ?_
  refine WO.done (Run.block ?_)
  refine Run.loopInv (fun m τ wr => ∃ (i : Nat) (xs : List (List (List S57))), i + m = l.length ∧ xs.length = l.length ∧ (∀ j, j < i → xs[j]? = some ((List.map (List.map cv)) (l.getD j []))) ∧ τ 0 = .slice A l.length c ∧ τ 3 = .slice (some ⟨g, 0, none⟩) xs.length l.length ∧ τ 4 = .int .i64 i ∧
      St w Em [Rw o54 54 (.slice (some ⟨g, 0, none⟩) xs.length l.length) xs] wr) l.length ⟨0, List.replicate l.length [], by omega, by simp, fun j hj => absurd hj (Nat.not_lt_zero _), rfl, rfl, rfl, H1⟩ ?_
  rintro m τ wr ih ⟨i, xs, hm, hx, hxi, h0, h3, h4, H⟩
  refine Run.seq (Run.seq (Run.regionL [0, 1, 2, 3] rfl ?_))
  refine WO.v 8 rfl rfl (r_moveI rfl h4) ?_
  refine WO.v 9 rfl rfl (r_moveL rfl h0) ?_
  refine WO.v 10 rfl rfl (r_len (e := 87) rfl rfl Try.underlying22) ?_
  refine WO.v 11 rfl rfl (r_lss rfl rfl rfl rfl) ?_
  refine WO.done (Run.test rfl (fun hq => ?_) (fun hq => ?_))
  · have hi : i < l.length := by omega
    have hsi := sumOf_le szSS l [] i hi
    obtain ⟨b, off, cs, rfl, hb, hcl, hk, hc⟩ := row_at (Kd.C_below hr H.below) [] i hi (Nat.succ_pos _)
    obtain ⟨Ai, ci, rfl, hci, hri⟩ := hk
    refine Run.skip (Run.seq (Run.block (Run.regionL [0, 1, 2, 3, 4, 5, 6, 7, 8] rfl ?_)))
    refine WO.v 14 rfl rfl (r_moveL rfl h3) ?_
    refine WO.v 15 rfl rfl (r_moveI rfl h4) ?_
    refine WO.v 16 rfl rfl (r_moveL rfl h0) ?_
    refine WO.v 17 rfl rfl (r_moveI rfl h4) ?_
    refine WO.v 18 rfl rfl (r_indexAddr rfl rfl rfl Try.underlying22 Try.sizeOf87 (by omega) hq (q := off + i * 1) (by rw [Int.toNat_natCast])) ?_
    refine WO.v 19 rfl rfl (r_load rfl rfl Try.isAgg87 (hc 0 _ rfl)) ?_
    refine WO.scall 20 rfl rfl Try.call56 H .n (toTimerSS_tri Ai ci (l.getD i []) wr hri (by unfold szSSS at hs; omega)) rfl rfl ?_
    rintro e LQ w2 ⟨A2, c2, rfl, rfl⟩ H2
    refine ⟨_, rfl, ?_⟩
    have H3 := H2.elR p0
    refine WO.v 21 rfl rfl (r_indexAddr rfl rfl rfl Try.underlying27 Try.sizeOf54 (by omega) (by omega) (q := 0 + i * 1) (by rw [Int.toNat_natCast])) ?_
    refine WO.sput rfl rfl rfl rfl rfl rfl Try.sizeOf54 rfl H3 p0 (j := i) (by omega) (Nat.zero_add _) ?_
    intro w3 H4
    refine WO.done (Run.blockEnd (Run.regionL [0, 1, 2] rfl ?_))
    refine WO.v 12 rfl rfl (r_moveI rfl h4) ?_
    refine WO.v 13 rfl rfl (r_add rfl rfl rfl (c := (i : Int) + 1) (wrap_in (by omega) (by omega))) ?_
    refine WO.v 4 rfl rfl (r_assignI rfl rfl) ?_
    exact WO.done (ih (m - 1) _ _ (by omega) ⟨i + 1, xs.set i ((List.map (List.map cv)) (l.getD i [])), by omega, by rw [List.length_set]; exact hx, set_at (f := fun j => (List.map (List.map cv)) (l.getD j [])) (by omega) rfl hxi, h0, by rw [List.length_set]; exact h3, rfl, by rw [List.length_set]; exact H4⟩)
  · obtain rfl := map_of_at (conv := (List.map (List.map cv))) [] hx (fun j hj => hxi j (by omega))
    refine Run.exit rfl (Run.seq (Run.regionL [0, 1] rfl ?_))
    refine WO.v 22 rfl rfl (r_moveL rfl h3) ?_
    refine WO.v 2 rfl rfl (r_assignL rfl rfl) ?_
    exact WO.done (Run.ret1 Try.func37 Try.results37 rfl ⟨_, ⟨_, _, rfl, rfl⟩, H⟩)
theorem eqTimer_calls (x : S57) (w : World) : Calls Try.prog 90 #[.agg #[.int .i64 x.f0, .int .i64 x.f1, .int .i64 x.f2], .agg #[.int .i64 x.f0, .int .i64 x.f1, .int .i64 x.f2]] w fun e w' => e = .returned (.bool true) ∧ Below w.heap.size w w' := by
  have H := St.nil w
  refine calls_of_run (fn := Try.f90) (n := 20) Try.func90 rfl Try.ntmps90 (Nat.le_of_ble_eq_true rfl) ?_
  refine Run.seq (Run.regionL [0, 1, 2] rfl ?_)
  refine WO.sbox 2 (cs := [.int .i64 x.f0, .int .i64 x.f1, .int .i64 x.f2]) rfl rfl rfl rfl H ?_
  intro g1 w1 H1
  refine WO.sbox 3 (cs := [.int .i64 x.f0, .int .i64 x.f1, .int .i64 x.f2]) rfl rfl rfl rfl H1 ?_
  intro g2 w2 H2
  refine WO.v 4 rfl rfl (r_assignB rfl rfl) ?_
  refine WO.done ((Run.seq (Run.seq (Run.regionL [0, 1, 2, 3, 4] rfl ?_))))
  refine WO.v 5 rfl rfl (r_fieldAddr rfl rfl Try.underlying57 rfl Try.sizeOf3 (q := 0) rfl) ?_
  refine WO.v 6 rfl rfl (r_load rfl rfl Try.isAgg3 (H2.cell p1 rfl)) ?_
  refine WO.v 7 rfl rfl (r_fieldAddr rfl rfl Try.underlying57 rfl Try.sizeOf3 (q := 0) rfl) ?_
  refine WO.v 8 rfl rfl (r_load rfl rfl Try.isAgg3 (H2.cell p0 rfl)) ?_
  refine WO.v 9 rfl rfl (r_neq rfl rfl rfl (decide_eq_false (fun h => h rfl))) ?_
  refine WO.done (Run.condF rfl (Run.skip (Run.seq (Run.seq (Run.regionL [0, 1, 2, 3, 4] rfl ?_)))))
  refine WO.v 10 rfl rfl (r_fieldAddr rfl rfl Try.underlying57 rfl Try.sizeOf3 (q := 1) rfl) ?_
  refine WO.v 11 rfl rfl (r_load rfl rfl Try.isAgg3 (H2.cell p1 rfl)) ?_
  refine WO.v 12 rfl rfl (r_fieldAddr rfl rfl Try.underlying57 rfl Try.sizeOf3 (q := 1) rfl) ?_
  refine WO.v 13 rfl rfl (r_load rfl rfl Try.isAgg3 (H2.cell p0 rfl)) ?_
  refine WO.v 14 rfl rfl (r_neq rfl rfl rfl (decide_eq_false (fun h => h rfl))) ?_
  refine WO.done (Run.condF rfl (Run.skip (Run.seq (Run.seq (Run.regionL [0, 1, 2, 3, 4] rfl ?_)))))
  refine WO.v 15 rfl rfl (r_fieldAddr rfl rfl Try.underlying57 rfl Try.sizeOf3 (q := 2) rfl) ?_
  refine WO.v 16 rfl rfl (r_load rfl rfl Try.isAgg3 (H2.cell p1 rfl)) ?_
  refine WO.v 17 rfl rfl (r_fieldAddr rfl rfl Try.underlying57 rfl Try.sizeOf3 (q := 2) rfl) ?_
  refine WO.v 18 rfl rfl (r_load rfl rfl Try.isAgg3 (H2.cell p0 rfl)) ?_
  refine WO.v 19 rfl rfl (r_neq rfl rfl rfl (decide_eq_false (fun h => h rfl))) ?_
  refine WO.done (Run.condF rfl (Run.skip (Run.seq (Run.regionL [0] rfl ?_))))
  refine WO.v 4 rfl rfl (r_assignB rfl rfl) ?_
  exact WO.done (Run.ret1 (v1 := .bool true) Try.func90 Try.results90 rfl ⟨rfl, H2.below⟩)
theorem eqTimerS_calls (A0 : Option Addr) (c0 : Nat) (A1 : Option Addr) (c1 : Nat) (l : List S57) (w : World) (hr0 : Kd.C k57 w A0 l.length l) (hr1 : Kd.C k57 w A1 l.length l) :
    Calls Try.prog 75 #[.slice A0 l.length c0, .slice A1 l.length c1] w fun e w' => e = .returned (.bool true) ∧ Below w.heap.size w w' := by
  have hbig : l.length ≤ 9223372036854775807 := hr0.2.1
  refine calls_of_run (fn := Try.f75) (n := 27) Try.func75 rfl Try.ntmps75 (Nat.le_of_ble_eq_true rfl) ?_
  refine Run.seq (Run.regionL [0] rfl ?_)
  refine WO.v 4 rfl rfl (r_assignB rfl rfl) ?_
  refine WO.done (Run.seq (Run.seq (Run.regionL [0, 1, 2, 3, 4] rfl ?_)))
  refine WO.v 6 rfl rfl (r_moveL rfl rfl) ?_
  refine WO.v 7 rfl rfl (r_len (e := 57) rfl rfl Try.underlying55) ?_
  refine WO.v 8 rfl rfl (r_moveL rfl rfl) ?_
  refine WO.v 9 rfl rfl (r_len (e := 57) rfl rfl Try.underlying55) ?_
  refine WO.v 10 rfl rfl (r_neq rfl rfl rfl (decide_eq_false (fun h => h rfl))) ?_
  refine WO.done (Run.condF rfl (Run.skip (Run.seq (Run.seq (Run.regionL [0] rfl ?_)))))
  refine WO.v 5 rfl rfl (r_assignI rfl rfl) ?_
  refine WO.done (Run.block ?_)
  refine Run.loopInv (fun m τ wr => ∃ (i : Nat), i + m = l.length ∧ τ 0 = .slice A0 l.length c0 ∧ τ 1 = .slice A1 l.length c1 ∧ τ 5 = .int .i64 i ∧ Below w.heap.size w wr) l.length ⟨0, by omega, rfl, rfl, rfl, Below.refl _ _⟩ ?_
  rintro m τ wr ih ⟨i, hm, h0, h1, h5, hbw⟩
  refine Run.seq (Run.seq (Run.regionL [0, 1, 2, 3] rfl ?_))
  refine WO.v 11 rfl rfl (r_moveI rfl h5) ?_
  refine WO.v 12 rfl rfl (r_moveL rfl h0) ?_
  refine WO.v 13 rfl rfl (r_len (e := 57) rfl rfl Try.underlying55) ?_
  refine WO.v 14 rfl rfl (r_lss rfl rfl rfl rfl) ?_
  refine WO.done (Run.test rfl (fun hq => ?_) (fun hq => ?_))
  · have hi : i < l.length := by omega
    obtain ⟨b0, o0, cs0, rfl, hb0, hcl0, hk0, hc0⟩ := row_at hr0 z57 i hi (Nat.succ_pos _)
    obtain ⟨b1, o1, cs1, rfl, hb1, hcl1, hk1, hc1⟩ := row_at hr1 z57 i hi (Nat.succ_pos _)
    obtain rfl := k57_open hk0
    obtain rfl := k57_open hk1
    refine Run.skip (Run.seq (Run.block (Run.seq (Run.quiet (fun W => Below w.heap.size w W) (by kernel_rfl) (by kernel_rfl) (hbw.trans ⟨rfl, rfl, rfl, Nat.le_refl _, fun _ _ => rfl⟩) _ rfl ?_))))
    refine WQ.v 17 rfl (fun W hW => r_moveL rfl h0) ?_
    refine WQ.v 18 rfl (fun W hW => r_moveI rfl h5) ?_
    refine WQ.v 19 rfl (fun W hW => r_indexAddr rfl rfl rfl Try.underlying55 Try.sizeOf57 (by omega) hq (q := o0 + i * 3) (by rw [Int.toNat_natCast])) ?_
    refine WQ.v 20 rfl (fun W hW => r_loadK (vs := [.int .i64 (l.getD i z57).f0, .int .i64 (l.getD i z57).f1, .int .i64 (l.getD i z57).f2]) rfl rfl Try.isAgg57 Try.sizeOf57 rfl (fun j u hj => (hW.cell (p := (⟨b0, o0 + i * 3, none⟩ : Addr).add j) (by rw [add_gg]; exact hb0)).trans (hc0 j u hj))) ?_
    refine WQ.v 21 rfl (fun W hW => r_moveL rfl h1) ?_
    refine WQ.v 22 rfl (fun W hW => r_moveI rfl h5) ?_
    refine WQ.v 23 rfl (fun W hW => r_indexAddr rfl rfl rfl Try.underlying55 Try.sizeOf57 (by omega) hq (q := o1 + i * 3) (by rw [Int.toNat_natCast])) ?_
    refine WQ.v 24 rfl (fun W hW => r_loadK (vs := [.int .i64 (l.getD i z57).f0, .int .i64 (l.getD i z57).f1, .int .i64 (l.getD i z57).f2]) rfl rfl Try.isAgg57 Try.sizeOf57 rfl (fun j u hj => (hW.cell (p := (⟨b1, o1 + i * 3, none⟩ : Addr).add j) (by rw [add_gg]; exact hb1)).trans (hc1 j u hj))) ?_
    refine WQ.c 25 rfl (fun W hW => (eqTimer_calls (l.getD i z57) W).mono fun e w' h => ⟨h.1, hW.trans (h.2.mono hW.size)⟩) (fun w => r_call rfl rfl rfl Try.call90) ?_
    refine WQ.v 26 rfl (fun W hW => r_not rfl rfl rfl) ?_
    refine WQ.done (fun w2 hb2 => Run.condF rfl (Run.skip (Run.blockEnd (Run.regionL [0, 1, 2] rfl ?_))))
    refine WO.v 15 rfl rfl (r_moveI rfl h5) ?_
    refine WO.v 16 rfl rfl (r_add rfl rfl rfl (c := (i : Int) + 1) (wrap_in (by omega) (by omega))) ?_
    refine WO.v 5 rfl rfl (r_assignI rfl rfl) ?_
    exact WO.done (ih (m - 1) _ _ (by omega) ⟨i + 1, by omega, h0, h1, rfl, hb2⟩)
  · refine Run.exit rfl (Run.seq (Run.regionL [0] rfl ?_))
    refine WO.v 4 rfl rfl (r_assignB rfl rfl) ?_
    exact WO.done (Run.ret1 (v1 := .bool true) Try.func75 Try.results75 rfl ⟨rfl, hbw⟩)
theorem eqTimerSS_calls (A0 : Option Addr) (c0 : Nat) (A1 : Option Addr) (c1 : Nat) (l : List (List S57)) (w : World) (hr0 : Kd.C (Kd.slice 57 k57) w A0 l.length l) (hr1 : Kd.C (Kd.slice 57 k57) w A1 l.length l) :
    Calls Try.prog 61 #[.slice A0 l.length c0, .slice A1 l.length c1] w fun e w' => e = .returned (.bool true) ∧ Below w.heap.size w w' := by
  have hbig : l.length ≤ 9223372036854775807 := hr0.2.1
  refine calls_of_run (fn := Try.f61) (n := 27) Try.func61 rfl Try.ntmps61 (Nat.le_of_ble_eq_true rfl) ?_
  refine Run.seq (Run.regionL [0] rfl ?_)
  refine WO.v 4 rfl rfl (r_assignB rfl rfl) ?_
  refine WO.done (Run.seq (Run.seq (Run.regionL [0, 1, 2, 3, 4] rfl ?_)))
  refine WO.v 6 rfl rfl (r_moveL rfl rfl) ?_
  refine WO.v 7 rfl rfl (r_len (e := 55) rfl rfl Try.underlying54) ?_
  refine WO.v 8 rfl rfl (r_moveL rfl rfl) ?_
  refine WO.v 9 rfl rfl (r_len (e := 55) rfl rfl Try.underlying54) ?_
  refine WO.v 10 rfl rfl (r_neq rfl rfl rfl (decide_eq_false (fun h => h rfl))) ?_
  refine WO.done (Run.condF rfl (Run.skip (Run.seq (Run.seq (Run.regionL [0] rfl ?_)))))
  refine WO.v 5 rfl rfl (r_assignI rfl rfl) ?_
  refine WO.done (Run.block ?_)
  refine Run.loopInv (fun m τ wr => ∃ (i : Nat), i + m = l.length ∧ τ 0 = .slice A0 l.length c0 ∧ τ 1 = .slice A1 l.length c1 ∧ τ 5 = .int .i64 i ∧ Below w.heap.size w wr) l.length ⟨0, by omega, rfl, rfl, rfl, Below.refl _ _⟩ ?_
  rintro m τ wr ih ⟨i, hm, h0, h1, h5, hbw⟩
  refine Run.seq (Run.seq (Run.regionL [0, 1, 2, 3] rfl ?_))
  refine WO.v 11 rfl rfl (r_moveI rfl h5) ?_
  refine WO.v 12 rfl rfl (r_moveL rfl h0) ?_
  refine WO.v 13 rfl rfl (r_len (e := 55) rfl rfl Try.underlying54) ?_
  refine WO.v 14 rfl rfl (r_lss rfl rfl rfl rfl) ?_
  refine WO.done (Run.test rfl (fun hq => ?_) (fun hq => ?_))
  · have hi : i < l.length := by omega
    obtain ⟨b0, o0, cs0, rfl, hb0, hcl0, hk0, hc0⟩ := row_at hr0 [] i hi (Nat.succ_pos _)
    obtain ⟨b1, o1, cs1, rfl, hb1, hcl1, hk1, hc1⟩ := row_at hr1 [] i hi (Nat.succ_pos _)
    obtain ⟨B0, d0, rfl, hd0, hri0⟩ := hk0
    obtain ⟨B1, d1, rfl, hd1, hri1⟩ := hk1
    refine Run.skip (Run.seq (Run.block (Run.seq (Run.quiet (fun W => Below w.heap.size w W) (by kernel_rfl) (by kernel_rfl) (hbw.trans ⟨rfl, rfl, rfl, Nat.le_refl _, fun _ _ => rfl⟩) _ rfl ?_))))
    refine WQ.v 17 rfl (fun W hW => r_moveL rfl h0) ?_
    refine WQ.v 18 rfl (fun W hW => r_moveI rfl h5) ?_
    refine WQ.v 19 rfl (fun W hW => r_indexAddr rfl rfl rfl Try.underlying54 Try.sizeOf55 (by omega) hq (q := o0 + i * 1) (by rw [Int.toNat_natCast])) ?_
    refine WQ.v 20 rfl (fun W hW => r_load rfl rfl Try.isAgg55 ((fun j u hj => (hW.cell (p := (⟨b0, o0 + i * 1, none⟩ : Addr).add j) (by rw [add_gg]; exact hb0)).trans (hc0 j u hj)) 0 _ rfl)) ?_
    refine WQ.v 21 rfl (fun W hW => r_moveL rfl h1) ?_
    refine WQ.v 22 rfl (fun W hW => r_moveI rfl h5) ?_
    refine WQ.v 23 rfl (fun W hW => r_indexAddr rfl rfl rfl Try.underlying54 Try.sizeOf55 (by omega) hq (q := o1 + i * 1) (by rw [Int.toNat_natCast])) ?_
    refine WQ.v 24 rfl (fun W hW => r_load rfl rfl Try.isAgg55 ((fun j u hj => (hW.cell (p := (⟨b1, o1 + i * 1, none⟩ : Addr).add j) (by rw [add_gg]; exact hb1)).trans (hc1 j u hj)) 0 _ rfl)) ?_
    refine WQ.c 25 rfl (fun W hW => (eqTimerS_calls B0 d0 B1 d1 (l.getD i []) W (Kd.C_below hri0 hW) (Kd.C_below hri1 hW)).mono fun e w' h => ⟨h.1, hW.trans (h.2.mono hW.size)⟩) (fun w => r_call rfl rfl rfl Try.call75) ?_
    refine WQ.v 26 rfl (fun W hW => r_not rfl rfl rfl) ?_
    refine WQ.done (fun w2 hb2 => Run.condF rfl (Run.skip (Run.blockEnd (Run.regionL [0, 1, 2] rfl ?_))))
    refine WO.v 15 rfl rfl (r_moveI rfl h5) ?_
    refine WO.v 16 rfl rfl (r_add rfl rfl rfl (c := (i : Int) + 1) (wrap_in (by omega) (by omega))) ?_
    refine WO.v 5 rfl rfl (r_assignI rfl rfl) ?_
    exact WO.done (ih (m - 1) _ _ (by omega) ⟨i + 1, by omega, h0, h1, rfl, hb2⟩)
  · refine Run.exit rfl (Run.seq (Run.regionL [0] rfl ?_))
    refine WO.v 4 rfl rfl (r_assignB rfl rfl) ?_
    exact WO.done (Run.ret1 (v1 := .bool true) Try.func61 Try.results61 rfl ⟨rfl, hbw⟩)
theorem eqTimerSSS_calls (A0 : Option Addr) (c0 : Nat) (A1 : Option Addr) (c1 : Nat) (l : List (List (List S57))) (w : World) (hr0 : Kd.C (Kd.slice 55 (Kd.slice 57 k57)) w A0 l.length l) (hr1 : Kd.C (Kd.slice 55 (Kd.slice 57 k57)) w A1 l.length l) :
    Calls Try.prog 39 #[.slice A0 l.length c0, .slice A1 l.length c1] w fun e w' => e = .returned (.bool true) ∧ Below w.heap.size w w' := by
  have hbig : l.length ≤ 9223372036854775807 := hr0.2.1
  refine calls_of_run (fn := Try.f39) (n := 27) Try.func39 rfl Try.ntmps39 (Nat.le_of_ble_eq_true rfl) ?_
  refine Run.seq (Run.regionL [0] rfl ?_)
  refine WO.v 4 rfl rfl (r_assignB rfl rfl) ?_
  refine WO.done (Run.seq (Run.seq (Run.regionL [0, 1, 2, 3, 4] rfl ?_)))
  refine WO.v 6 rfl rfl (r_moveL rfl rfl) ?_
  refine WO.v 7 rfl rfl (r_len (e := 54) rfl rfl Try.underlying27) ?_
  refine WO.v 8 rfl rfl (r_moveL rfl rfl) ?_
  refine WO.v 9 rfl rfl (r_len (e := 54) rfl rfl Try.underlying27) ?_
  refine WO.v 10 rfl rfl (r_neq rfl rfl rfl (decide_eq_false (fun h => h rfl))) ?_
  refine WO.done (Run.condF rfl (Run.skip (Run.seq (Run.seq (Run.regionL [0] rfl ?_)))))
  refine WO.v 5 rfl rfl (r_assignI rfl rfl) ?_
  refine WO.done (Run.block ?_)
  refine Run.loopInv (fun m τ wr => ∃ (i : Nat), i + m = l.length ∧ τ 0 = .slice A0 l.length c0 ∧ τ 1 = .slice A1 l.length c1 ∧ τ 5 = .int .i64 i ∧ Below w.heap.size w wr) l.length ⟨0, by omega, rfl, rfl, rfl, Below.refl _ _⟩ ?_
  rintro m τ wr ih ⟨i, hm, h0, h1, h5, hbw⟩
  refine Run.seq (Run.seq (Run.regionL [0, 1, 2, 3] rfl ?_))
  refine WO.v 11 rfl rfl (r_moveI rfl h5) ?_
  refine WO.v 12 rfl rfl (r_moveL rfl h0) ?_
  refine WO.v 13 rfl rfl (r_len (e := 54) rfl rfl Try.underlying27) ?_
  refine WO.v 14 rfl rfl (r_lss rfl rfl rfl rfl) ?_
  refine WO.done (Run.test rfl (fun hq => ?_) (fun hq => ?_))
  · have hi : i < l.length := by omega
    obtain ⟨b0, o0, cs0, rfl, hb0, hcl0, hk0, hc0⟩ := row_at hr0 [] i hi (Nat.succ_pos _)
    obtain ⟨b1, o1, cs1, rfl, hb1, hcl1, hk1, hc1⟩ := row_at hr1 [] i hi (Nat.succ_pos _)
    obtain ⟨B0, d0, rfl, hd0, hri0⟩ := hk0
    obtain ⟨B1, d1, rfl, hd1, hri1⟩ := hk1
    refine Run.skip (Run.seq (Run.block (Run.seq (Run.quiet (fun W => Below w.heap.size w W) (by kernel_rfl) (by kernel_rfl) (hbw.trans ⟨rfl, rfl, rfl, Nat.le_refl _, fun _ _ => rfl⟩) _ rfl ?_))))
    refine WQ.v 17 rfl (fun W hW => r_moveL rfl h0) ?_
    refine WQ.v 18 rfl (fun W hW => r_moveI rfl h5) ?_
    refine WQ.v 19 rfl (fun W hW => r_indexAddr rfl rfl rfl Try.underlying27 Try.sizeOf54 (by omega) hq (q := o0 + i * 1) (by rw [Int.toNat_natCast])) ?_
    refine WQ.v 20 rfl (fun W hW => r_load rfl rfl Try.isAgg54 ((fun j u hj => (hW.cell (p := (⟨b0, o0 + i * 1, none⟩ : Addr).add j) (by rw [add_gg]; exact hb0)).trans (hc0 j u hj)) 0 _ rfl)) ?_
    refine WQ.v 21 rfl (fun W hW => r_moveL rfl h1) ?_
    refine WQ.v 22 rfl (fun W hW => r_moveI rfl h5) ?_
    refine WQ.v 23 rfl (fun W hW => r_indexAddr rfl rfl rfl Try.underlying27 Try.sizeOf54 (by omega) hq (q := o1 + i * 1) (by rw [Int.toNat_natCast])) ?_
    refine WQ.v 24 rfl (fun W hW => r_load rfl rfl Try.isAgg54 ((fun j u hj => (hW.cell (p := (⟨b1, o1 + i * 1, none⟩ : Addr).add j) (by rw [add_gg]; exact hb1)).trans (hc1 j u hj)) 0 _ rfl)) ?_
    refine WQ.c 25 rfl (fun W hW => (eqTimerSS_calls B0 d0 B1 d1 (l.getD i []) W (Kd.C_below hri0 hW) (Kd.C_below hri1 hW)).mono fun e w' h => ⟨h.1, hW.trans (h.2.mono hW.size)⟩) (fun w => r_call rfl rfl rfl Try.call61) ?_
    refine WQ.v 26 rfl (fun W hW => r_not rfl rfl rfl) ?_
    refine WQ.done (fun w2 hb2 => Run.condF rfl (Run.skip (Run.blockEnd (Run.regionL [0, 1, 2] rfl ?_))))
    refine WO.v 15 rfl rfl (r_moveI rfl h5) ?_
    refine WO.v 16 rfl rfl (r_add rfl rfl rfl (c := (i : Int) + 1) (wrap_in (by omega) (by omega))) ?_
    refine WO.v 5 rfl rfl (r_assignI rfl rfl) ?_
    exact WO.done (ih (m - 1) _ _ (by omega) ⟨i + 1, by omega, h0, h1, rfl, hb2⟩)
  · refine Run.exit rfl (Run.seq (Run.regionL [0] rfl ?_))
    refine WO.v 4 rfl rfl (r_assignB rfl rfl) ?_
    exact WO.done (Run.ret1 (v1 := .bool true) Try.func39 Try.results39 rfl ⟨rfl, hbw⟩)
end Go.Proofs.Ytojpimpfpjhflaa.Wh
namespace Go.Proofs.Ytojpimpfpjhflaa.Wh
open Go.RowKit Go.Proofs.Ytojpimpfpjhflaa.Fw Go.Proofs.YtojpimpfpjhflaaW.PrintWords Go.Proofs.Ytojpimpfpjhflaa.PFnExactWheelOK
set_option linter.unusedVariables false
set_option linter.unusedSimpArgs false

theorem build69 (a b : Int) (w : World) : (Instr.build 69 #[(0, .int .i64 a), (1, .int .i64 b)]).run Try.prog w = .ok (.agg #[.int .i64 a, .int .i64 b, .slice none 0 0]) w := by kernel_rfl
theorem pref_le (lv : List (List (List S57))) (j s : Nat) (hj : j < lv.length) (hs : s < (lv.getD j []).length) : ((lv.take j).flatten.flatten ++ ((lv.getD j []).take s).flatten).length + ((lv.getD j []).getD s []).length ≤ lv.flatten.flatten.length := by
  have e1 : lv.flatten.flatten.length = (lv.take (j + 1)).flatten.flatten.length + (lv.drop (j + 1)).flatten.flatten.length := by
    conv => lhs; rw [← List.take_append_drop (j + 1) lv, List.flatten_append, List.flatten_append, List.length_append]
  have e2 := take_flat lv j hj
  have e3 := flat_le (lv.getD j []) (s + 1)
  rw [take_flat _ s hs, List.length_append] at e3
  rw [e1, e2, List.flatten_append, List.length_append, List.length_append]
  omega

set_option maxHeartbeats 1000000 in
theorem unwind_tri (hsort : SortRw) (now order : Int) (A : Option Addr) (c : Nat) (lv : List (List (List S57))) (w : World) (hr : Kd.C (Kd.slice 55 (Kd.slice 57 k57)) w A lv.length lv) (hbig : lv.flatten.flatten.length ≤ 1048576) :
    Tri Try.prog 38 #[.agg #[.int .i64 now, .int .i64 order, .slice A lv.length c]] w [] (UQ now order lv) := by
  refine tri_of_run0 (fn := Try.f38) (n := 109) Try.func38 rfl Try.ntmps38 (Nat.le_of_ble_eq_true rfl) fun H => ?_
  refine Run.seq (Run.regionL [0, 1, 2] rfl ?_)
  refine WO.sbox 1 (cs := [.int .i64 now, .int .i64 order, .slice A lv.length c]) rfl rfl rfl rfl H ?_
  intro g1 w1 H1
  refine WO.salloc 2 (cs := [.int .i64 0, .int .i64 0, .slice none 0 0]) rfl rfl rfl Try.zeroValue69 rfl H1 ?_
  intro g2 w2 H2
  refine WO.v 3 rfl rfl (r_assignB rfl rfl) ?_
  refine WO.done (Run.seq (Run.regionL [0, 1, 2, 3, 4, 5, 6] rfl ?_))
  refine WO.v 11 rfl rfl (r_fieldAddr rfl rfl Try.underlying29 rfl Try.sizeOf3 rfl) ?_
  refine WO.v 12 rfl rfl (r_load rfl rfl Try.isAgg3 (H2.cell p1 rfl)) ?_
  refine WO.v 13 rfl rfl (r_fieldAddr rfl rfl Try.underlying29 rfl Try.sizeOf3 rfl) ?_
  refine WO.v 14 rfl rfl (r_load rfl rfl Try.isAgg3 (H2.cell p1 rfl)) ?_
  refine WO.v 15 rfl rfl (r_build rfl (build69 now order _) rfl) ?_
  refine WO.salloc 4 (cs := [.int .i64 0, .int .i64 0, .slice none 0 0]) rfl rfl rfl Try.zeroValue69 rfl H2 ?_
  intro g4 w4 H4
  refine WO.sstoreK (vs := [.int .i64 now, .int .i64 order, .slice none 0 0]) rfl rfl rfl rfl rfl rfl rfl Try.sizeOf69 rfl H4 p0 rfl ?_
  intro w5 H5'
  have H5 := H5'.row_nil o57 57
  clear H H1 H2 H4 H5'
  refine WO.done (Run.seq (Run.seq (Run.regionL [0, 1, 2, 3, 4, 5, 6, 7, 8, 9, 10, 11, 12, 13, 14, 15] rfl ?_)))
  refine WO.v 16 rfl rfl (r_fieldAddr rfl rfl Try.underlying29 rfl Try.sizeOf3 rfl) ?_
  refine WO.v 17 rfl rfl (r_load rfl rfl Try.isAgg3 (H5.cell p3 rfl)) ?_
  refine WO.call_ 18 rfl rfl Try.call45 (inRange_calls now 0 1000000 w5) rfl rfl ?_
  rintro e w6 ⟨rfl, rfl⟩
  refine ⟨_, rfl, ?_⟩
  by_cases hn : 0 ≤ now ∧ now ≤ 1000000
  · rw [decide_eq_true hn]
    refine WO.v 19 rfl rfl (r_not rfl rfl rfl) ?_
    refine WO.v 20 rfl rfl (r_moveB rfl rfl) ?_
    refine WO.v 21 rfl rfl (r_fieldAddr rfl rfl Try.underlying29 rfl Try.sizeOf3 rfl) ?_
    refine WO.v 22 rfl rfl (r_load rfl rfl Try.isAgg3 (H5.cell p3 rfl)) ?_
    refine WO.call_ 23 rfl rfl Try.call45 (inRange_calls order 0 1000000 w6) rfl rfl ?_
    rintro e w7 ⟨rfl, rfl⟩
    refine ⟨_, rfl, ?_⟩
    by_cases ho : 0 ≤ order ∧ order ≤ 1000000
    · rw [decide_eq_true ho]
      refine WO.v 24 rfl rfl (r_not rfl rfl rfl) ?_
      refine WO.v 25 rfl rfl (r_pickB rfl rfl rfl) ?_
      refine WO.v 26 rfl rfl (r_moveB rfl rfl) ?_
      refine WO.v 27 rfl rfl (r_fieldAddr rfl rfl Try.underlying29 rfl Try.sizeOf27 rfl) ?_
      refine WO.v 28 rfl rfl (r_load rfl rfl Try.isAgg27 (H5.cell p3 rfl)) ?_
      refine WO.v 29 rfl rfl (r_len (e := 54) rfl rfl Try.underlying27) ?_
      by_cases h3 : (lv.length : Int) = 3
      · refine WO.v 30 rfl rfl (r_neq rfl rfl rfl (decide_eq_false (fun h => h h3))) ?_
        refine WO.v 31 rfl rfl (r_pickB rfl rfl rfl) ?_
        refine WO.done (Run.condF rfl (Run.skip (Run.seq (Run.seq (Run.regionL [0, 1, 2, 3] rfl ?_)))))
        refine WO.v 33 rfl rfl (r_fieldAddr rfl rfl Try.underlying29 rfl Try.sizeOf27 rfl) ?_
        refine WO.v 34 rfl rfl (r_load rfl rfl Try.isAgg27 (H5.cell p3 rfl)) ?_
        refine WO.v 35 rfl rfl (r_len (e := 54) rfl rfl Try.underlying27) ?_
        refine WO.v 36 rfl rfl (r_moveI rfl rfl) ?_
        refine WO.done (Run.block ?_)
        refine Run.loopInv (fun m τ wr => ∃ (j : Nat) (A' : Option Addr) (c' : Nat) (ts : List S57), j + m = 3 ∧ τ 1 = .pointer (some ⟨g1, 0, none⟩) ∧ τ 2 = .pointer (some ⟨g2, 0, none⟩) ∧ τ 4 = .pointer (some ⟨g4, 0, none⟩) ∧ τ 34 = .slice A lv.length c ∧ τ 35 = .int .i64 lv.length ∧ τ 36 = .int .i64 j ∧
            St w Em [RT A' c' ts, Bk g4 [.int .i64 now, .int .i64 order, .slice A' ts.length c'] 69, Bk g2 [.int .i64 0, .int .i64 0, .slice none 0 0] 69, Bk g1 [.int .i64 now, .int .i64 order, .slice A lv.length c] 29] wr ∧
            ts = (lv.take j).flatten.flatten ∧ ts.length ≤ 60 ∧ ∀ l, l < j → levelB now order l (lv.getD l [])) 3 ⟨0, none, 0, [], by omega, rfl, rfl, rfl, rfl, rfl, rfl, H5, rfl, by simp, fun l hl => absurd hl (Nat.not_lt_zero _)⟩ ?_
        clear H5
        rintro m τ wr ih ⟨j, A', c', ts, hm, h1, h2, h4, h34, h35, h36, H, hts, hfew, hlev⟩
        refine Run.seq (Run.regionL [0] rfl ?_)
        refine WO.v 37 rfl rfl (r_lss rfl h36 h35 rfl) ?_
        refine WO.done (Run.seq (Run.test rfl (fun hq => ?_) (fun hq => ?_)))
        · have hj : j < lv.length := by omega
          obtain ⟨b1, o1, A1, c1, rfl, hb1, hc1, hcc1, hr1⟩ := slice_at hr j hj
          have hlen1 : (lv.getD j []).length ≤ 9223372036854775807 := hr1.2.1
          refine Run.skip (Run.seq (Run.block (Run.seq (Run.regionL [0, 1, 2, 3, 4] rfl ?_))))
          refine WO.v 38 rfl rfl (r_moveI rfl h36) ?_
          refine WO.v 39 rfl rfl (r_indexAddr rfl h34 h36 Try.underlying27 Try.sizeOf54 (by omega) (by omega) (q := o1 + j) (by rw [Int.toNat_natCast, Nat.mul_one])) ?_
          refine WO.v 40 rfl rfl (r_load rfl rfl Try.isAgg54 ((H.below.cell (p := ⟨b1, o1 + j, none⟩) hb1).trans hc1)) ?_
          refine WO.v 5 rfl rfl (r_assignI rfl rfl) ?_
          refine WO.v 6 rfl rfl (r_assignL rfl rfl) ?_
          refine WO.done (Run.seq (Run.seq (Run.regionL [0, 1, 2] rfl ?_)))
          refine WO.v 41 rfl rfl (r_moveL rfl rfl) ?_
          refine WO.v 42 rfl rfl (r_len (e := 55) rfl rfl Try.underlying54) ?_
          by_cases h8 : ((lv.getD j []).length : Int) = 8
          · refine WO.v 43 rfl rfl (r_neq rfl rfl rfl (decide_eq_false (fun h => h h8))) ?_
            refine WO.done (Run.condF rfl (Run.skip (Run.seq (Run.regionL [0, 1, 2] rfl ?_))))
            refine WO.v 45 rfl rfl (r_moveL rfl rfl) ?_
            refine WO.v 46 rfl rfl (r_len (e := 55) rfl rfl Try.underlying54) ?_
            refine WO.v 47 rfl rfl (r_moveI rfl rfl) ?_
            refine WO.done (Run.block ?_)
            refine Run.loopInv (fun m τ wr => ∃ (s : Nat) (A' : Option Addr) (c' : Nat) (ts : List S57), s + m = 8 ∧ τ 1 = .pointer (some ⟨g1, 0, none⟩) ∧ τ 2 = .pointer (some ⟨g2, 0, none⟩) ∧ τ 4 = .pointer (some ⟨g4, 0, none⟩) ∧ τ 34 = .slice (some ⟨b1, o1, none⟩) lv.length c ∧ τ 35 = .int .i64 lv.length ∧ τ 36 = .int .i64 j ∧
                τ 5 = .int .i64 j ∧ τ 45 = .slice A1 (lv.getD j []).length c1 ∧ τ 46 = .int .i64 (lv.getD j []).length ∧ τ 47 = .int .i64 s ∧
                St w Em [RT A' c' ts, Bk g4 [.int .i64 now, .int .i64 order, .slice A' ts.length c'] 69, Bk g2 [.int .i64 0, .int .i64 0, .slice none 0 0] 69, Bk g1 [.int .i64 now, .int .i64 order, .slice (some ⟨b1, o1, none⟩) lv.length c] 29] wr ∧
                ts = (lv.take j).flatten.flatten ++ ((lv.getD j []).take s).flatten ∧ ts.length ≤ 60 ∧ ∀ s' : Nat, s' < s → slotB now order j s' 0 ((lv.getD j []).getD s' []) = true) 8 ⟨0, A', c', ts, by omega, h1, h2, h4, h34, h35, h36, rfl, rfl, rfl, rfl, H, by simp [hts], hfew, fun l hl => absurd hl (Nat.not_lt_zero _)⟩ ?_
            clear H h1 h2 h4 h34 h35 h36 hts hfew ts A' c'
            rintro m2 τ wr ih2 ⟨s, A', c', ts, hm2, h1, h2, h4, h34, h35, h36, h5, h45, h46, h47, H, hts, hfew, hsl⟩
            refine Run.seq (Run.regionL [0] rfl ?_)
            refine WO.v 48 rfl rfl (r_lss rfl h47 h46 rfl) ?_
            refine WO.done (Run.seq (Run.test rfl (fun hq2 => ?_) (fun hq2 => ?_)))
            · have hs : s < (lv.getD j []).length := by omega
              obtain ⟨b2, o2, A2, c2, rfl, hb2, hc2, hcc2, hr2⟩ := slice_at hr1 s hs
              have hpre := pref_le lv j s hj hs
              rw [← hts] at hpre
              have hlen2 : ((lv.getD j []).getD s []).length ≤ 9223372036854775807 := hr2.2.1
              have hslot := slotOK_calls now order (some ⟨b1, o1, none⟩) c lv j s wr (Kd.C_below hr H.below) hn.1 hn.2 ho.2 hj hs
              refine Run.skip (Run.seq (Run.block (Run.seq (Run.regionL [0, 1, 2, 3, 4] rfl ?_))))
              refine WO.v 49 rfl rfl (r_moveI rfl h47) ?_
              refine WO.v 50 rfl rfl (r_indexAddr rfl h45 h47 Try.underlying54 Try.sizeOf55 (by omega) (by omega) (q := o2 + s) (by rw [Int.toNat_natCast, Nat.mul_one])) ?_
              refine WO.v 51 rfl rfl (r_load rfl rfl Try.isAgg55 ((H.below.cell (p := ⟨b2, o2 + s, none⟩) hb2).trans hc2)) ?_
              refine WO.v 7 rfl rfl (r_assignI rfl rfl) ?_
              refine WO.v 8 rfl rfl (r_assignL rfl rfl) ?_
              refine WO.done (Run.seq (Run.seq (Run.regionL [0, 1, 2, 3, 4, 5, 6, 7, 8, 9, 10, 11, 12, 13] rfl ?_)))
              refine WO.v 52 rfl rfl (r_fieldAddr rfl h4 Try.underlying69 rfl Try.sizeOf55 rfl) ?_
              refine WO.v 53 rfl rfl (r_load rfl rfl Try.isAgg55 (H.cell p1 rfl)) ?_
              refine WO.v 54 rfl rfl (r_len (e := 57) rfl rfl Try.underlying55) ?_
              refine WO.v 55 rfl rfl (r_moveL rfl rfl) ?_
              refine WO.v 56 rfl rfl (r_len (e := 57) rfl rfl Try.underlying55) ?_
              refine WO.v 57 rfl rfl (r_add rfl rfl rfl (wrap_in (by omega) (by omega))) ?_
              by_cases h60 : (60 : Int) < (ts.length : Int) + (((lv.getD j []).getD s []).length : Int)
              · refine WO.v 58 rfl rfl (r_gtr rfl rfl rfl (decide_eq_true h60)) ?_
                refine WO.v 59 rfl rfl (r_moveB rfl rfl) ?_
                refine WO.x 60 rfl rfl ?_
                refine WO.x 61 rfl rfl ?_
                refine WO.x 62 rfl rfl ?_
                refine WO.x 63 rfl rfl ?_
                refine WO.x 64 rfl rfl ?_
                refine WO.v 65 rfl rfl (r_pickB rfl rfl rfl) ?_
                refine WO.done (Run.condT rfl (Run.seq (Run.regionL [0, 1, 2] rfl ?_)))
                refine WO.v 66 rfl rfl (r_loadK (vs := [.int .i64 now, .int .i64 order, .slice A' ts.length c']) rfl h4 Try.isAgg69 Try.sizeOf69 rfl (H.cells p1)) ?_
                refine WO.sstoreK (vs := [.int .i64 now, .int .i64 order, .slice A' ts.length c']) rfl rfl rfl h2 rfl rfl rfl Try.sizeOf69 rfl H p2 rfl ?_
                intro wS HS
                refine WO.v 3 rfl rfl (r_assignB rfl rfl) ?_
                exact WO.done (Run.ret2 (v2 := .bool false) Try.func38 Try.results38 ⟨_, h2, run_loadVarK Try.isAgg69 Try.sizeOf69 rfl (HS.cells p2)⟩ rfl ⟨[RT A' c' ts], ⟨A', c', ts, false, rfl, rfl, fun h => Bool.noConfusion h, fun _ => fun hG => by have := hG.few; omega⟩, HS.sel (.c q0 .n)⟩)
              · refine WO.v 58 rfl rfl (r_gtr rfl rfl rfl (decide_eq_false h60)) ?_
                refine WO.v 59 rfl rfl (r_moveB rfl rfl) ?_
                refine WO.v 60 rfl rfl (r_loadK (vs := [.int .i64 now, .int .i64 order, .slice (some ⟨b1, o1, none⟩) lv.length c]) rfl h1 Try.isAgg29 Try.sizeOf29 rfl (H.cells p3)) ?_
                refine WO.v 61 rfl rfl (r_moveI rfl h5) ?_
                refine WO.v 62 rfl rfl (r_moveI rfl rfl) ?_
                refine WO.call_ 63 rfl rfl Try.call57 hslot rfl rfl ?_
                rintro e w2 ⟨rfl, hbw⟩
                refine ⟨_, rfl, ?_⟩
                have H' := H.step hbw
                clear hslot
                cases hsb : slotB now order j s 0 ((lv.getD j []).getD s [])
                · refine WO.v 64 rfl rfl (r_not rfl rfl rfl) ?_
                  refine WO.v 65 rfl rfl (r_pickB rfl rfl rfl) ?_
                  refine WO.done (Run.condT rfl (Run.seq (Run.regionL [0, 1, 2] rfl ?_)))
                  refine WO.v 66 rfl rfl (r_loadK (vs := [.int .i64 now, .int .i64 order, .slice A' ts.length c']) rfl h4 Try.isAgg69 Try.sizeOf69 rfl (H'.cells p1)) ?_
                  refine WO.sstoreK (vs := [.int .i64 now, .int .i64 order, .slice A' ts.length c']) rfl rfl rfl h2 rfl rfl rfl Try.sizeOf69 rfl H' p2 rfl ?_
                  intro wS HS
                  refine WO.v 3 rfl rfl (r_assignB rfl rfl) ?_
                  exact WO.done (Run.ret2 (v2 := .bool false) Try.func38 Try.results38 ⟨_, h2, run_loadVarK Try.isAgg69 Try.sizeOf69 rfl (HS.cells p2)⟩ rfl ⟨[RT A' c' ts], ⟨A', c', ts, false, rfl, rfl, fun h => Bool.noConfusion h, fun _ => fun hG => by have := (hG.level j (by omega)).2 s (by omega); rw [hsb] at this; cases this⟩, HS.sel (.c q0 .n)⟩)
                · refine WO.v 64 rfl rfl (r_not rfl rfl rfl) ?_
                  refine WO.v 65 rfl rfl (r_pickB rfl rfl rfl) ?_
                  refine WO.done (Run.condF rfl (Run.skip (Run.regionL [0, 1, 2, 3, 4, 5] rfl ?_)))
                  refine WO.v 67 rfl rfl (r_fieldAddr rfl h4 Try.underlying69 rfl Try.sizeOf55 rfl) ?_
                  refine WO.v 68 rfl rfl (r_load rfl rfl Try.isAgg55 (H'.cell p1 rfl)) ?_
                  refine WO.v 69 rfl rfl (r_moveL rfl rfl) ?_
                  refine WO.sappend 70 rfl rfl rfl Try.underlying55 info57 rfl (Nat.succ_pos 2) rfl rfl flat57 H' p0 (Kd.C_below hr2 H'.below) (by omega) (by omega) ?_
                  intro A3 c3 w3 H3
                  refine WO.v 71 rfl rfl (r_fieldAddr rfl h4 Try.underlying69 rfl Try.sizeOf55 (q := 2) rfl) ?_
                  refine WO.sstore rfl rfl rfl rfl rfl rfl Try.sizeOf55 H3 p1 (.s (.s .z)) ?_
                  intro w4 H4
                  refine WO.done (Run.blockEnd (Run.regionL [0, 1] rfl ?_))
                  refine WO.v 72 rfl rfl (r_add rfl h47 rfl (c := (s : Int) + 1) (wrap_in (by omega) (by omega))) ?_
                  refine WO.v 47 rfl rfl (r_moveI rfl rfl) ?_
                  refine WO.done (ih2 (m2 - 1) _ _ (by omega) ⟨s + 1, A3, c3, ts ++ (lv.getD j []).getD s [], by omega, h1, h2, h4, h34, h35, h36, h5, h45, h46, rfl, H4, ?_, by rw [List.length_append]; omega, fun s' hs' => ?_⟩)
                  · rw [hts, take_flat _ s hs, List.append_assoc]
                  · by_cases e : s' = s
                    · rw [e]; exact hsb
                    · exact hsl s' (by omega)
            · have hs8 : s = 8 := by omega
              refine Run.exit rfl (Run.blockEnd (Run.regionL [0, 1] rfl ?_))
              refine WO.v 73 rfl rfl (r_add rfl h36 rfl (c := (j : Int) + 1) (wrap_in (by omega) (by omega))) ?_
              refine WO.v 36 rfl rfl (r_moveI rfl rfl) ?_
              refine WO.done (ih (m - 1) _ _ (by omega) ⟨j + 1, A', c', ts, by omega, h1, h2, h4, h34, h35, rfl, H, ?_, hfew, fun l hl => ?_⟩)
              · rw [hts, take_flat lv j hj, List.flatten_append, List.take_of_length_le (show (lv.getD j []).length ≤ s by omega)]
              · by_cases e : l = j
                · rw [e]; exact ⟨by omega, fun s' hs' => hsl s' (by omega)⟩
                · exact hlev l (by omega)
          · refine WO.v 43 rfl rfl (r_neq rfl rfl rfl (decide_eq_true h8)) ?_
            refine WO.done (Run.condT rfl (Run.seq (Run.regionL [0, 1, 2] rfl ?_)))
            refine WO.v 44 rfl rfl (r_loadK (vs := [.int .i64 now, .int .i64 order, .slice A' ts.length c']) rfl h4 Try.isAgg69 Try.sizeOf69 rfl (H.cells p1)) ?_
            refine WO.sstoreK (vs := [.int .i64 now, .int .i64 order, .slice A' ts.length c']) rfl rfl rfl h2 rfl rfl rfl Try.sizeOf69 rfl H p2 rfl ?_
            intro wS HS
            refine WO.v 3 rfl rfl (r_assignB rfl rfl) ?_
            exact WO.done (Run.ret2 (v2 := .bool false) Try.func38 Try.results38 ⟨_, h2, run_loadVarK Try.isAgg69 Try.sizeOf69 rfl (HS.cells p2)⟩ rfl ⟨[RT A' c' ts], ⟨A', c', ts, false, rfl, rfl, fun h => Bool.noConfusion h, fun _ => fun hG => h8 (by have := (hG.level j (by omega)).1; omega)⟩, HS.sel (.c q0 .n)⟩)
        · have hj3 : j = 3 := by omega
          have hts' : ts = lv.flatten.flatten := by rw [hts, List.take_of_length_le (show lv.length ≤ j by omega)]
          have hord : ∀ x ∈ ts, 0 ≤ x.f2 ∧ x.f2 ≤ 1000000 := by
            intro x hx
            rw [hts'] at hx
            obtain ⟨l, hl, hx⟩ := List.mem_flatten.1 hx
            obtain ⟨lvl, hlvl, hl⟩ := List.mem_flatten.1 hl
            obtain ⟨a, ha, rfl⟩ := List.getElem_of_mem hlvl
            obtain ⟨b, hb, rfl⟩ := List.getElem_of_mem hl
            have h := hlev a (by omega)
            have e1 : lv.getD a [] = lv[a] := by simp [List.getD_eq_getElem?_getD, List.getElem?_eq_getElem ha]
            rw [e1] at h
            have h' := h.2 b (by have := h.1; omega)
            have e2 : (lv[a]).getD b [] = (lv[a])[b] := by simp [List.getD_eq_getElem?_getD, List.getElem?_eq_getElem hb]
            rw [e2] at h'
            have := slotB_orders now order _ _ 0 _ (by omega) h' x hx
            omega
          refine Run.exit rfl (Run.seq (Run.regionL [0, 1, 2] rfl ?_))
          refine WO.v 74 rfl rfl (r_fieldAddr rfl h4 Try.underlying69 rfl Try.sizeOf55 rfl) ?_
          refine WO.v 75 rfl rfl (r_load rfl rfl Try.isAgg55 (H.cell p1 rfl)) ?_
          refine WO.scall 76 rfl rfl Try.call58 H (.c q0 .n) (hsort A' c' ts _ hord hfew) rfl rfl ?_
          rintro e LQ w2 ⟨rfl, us, hp, hsorted, rfl⟩ H2
          refine ⟨_, rfl, ?_⟩
          have H3 : St w Em [RT A' c' us, Bk g4 [.int .i64 now, .int .i64 order, .slice A' us.length c'] 69, Bk g2 [.int .i64 0, .int .i64 0, .slice none 0 0] 69] w2 := by
            rw [hp.length_eq]; exact H2.sel (.c q0 (.c q0 (.c q0 .n)))
          clear H H2
          refine WO.done (Run.seq (Run.seq (Run.regionL [0, 1, 2, 3] rfl ?_)))
          refine WO.v 77 rfl rfl (r_fieldAddr rfl h4 Try.underlying69 rfl Try.sizeOf55 rfl) ?_
          refine WO.v 78 rfl rfl (r_load rfl rfl Try.isAgg55 (H3.cell p1 rfl)) ?_
          refine WO.v 79 rfl rfl (r_len (e := 57) rfl rfl Try.underlying55) ?_
          refine WO.v 80 rfl rfl (r_moveI rfl rfl) ?_
          refine WO.done (Run.block ?_)
          have hul : us.length ≤ 60 := by rw [hp.length_eq]; exact hfew
          have nogood : ∀ i, i < us.length → ¬ TOK us i → ¬ Good now order lv := fun i hi ht hG => not_tok us i hi ht ⟨(hp.map _).nodup_iff.2 (by rw [hts']; exact hG.ids), (hp.map _).nodup_iff.2 (by rw [hts']; exact hG.orders)⟩
          refine Run.loopInv (fun m τ wr => ∃ (i : Nat), i + m = us.length ∧ τ 2 = .pointer (some ⟨g2, 0, none⟩) ∧ τ 4 = .pointer (some ⟨g4, 0, none⟩) ∧ τ 78 = .slice A' us.length c' ∧ τ 79 = .int .i64 us.length ∧ τ 80 = .int .i64 i ∧
              St w Em [RT A' c' us, Bk g4 [.int .i64 now, .int .i64 order, .slice A' us.length c'] 69, Bk g2 [.int .i64 0, .int .i64 0, .slice none 0 0] 69] wr ∧ ∀ i', i' < i → TOK us i') us.length ⟨0, by omega, h2, h4, rfl, rfl, rfl, H3, fun l hl => absurd hl (Nat.not_lt_zero _)⟩ ?_
          clear H3 h1 h2 h4 h34 h35 h36 ih
          rintro m2 τ wr ih ⟨i, hm2, h2, h4, h78, h79, h80, H, htok⟩
          refine Run.seq (Run.regionL [0] rfl ?_)
          refine WO.v 81 rfl rfl (r_lss rfl h80 h79 rfl) ?_
          refine WO.done (Run.seq (Run.test rfl (fun hq2 => ?_) (fun hq2 => ?_)))
          · have hi : i < us.length := by omega
            obtain ⟨gg, rfl, hgg⟩ := H.lies p0 (by omega)
            refine Run.skip (Run.seq (Run.block (Run.seq (Run.regionL [0, 1, 2, 3, 4, 5] rfl ?_))))
            refine WO.v 82 rfl rfl (r_moveI rfl h80) ?_
            refine WO.v 83 rfl rfl (r_indexAddr rfl h78 h80 Try.underlying55 Try.sizeOf57 (by omega) hq2 (q := 0 + i * 3) (by rw [Int.toNat_natCast])) ?_
            refine WO.v 84 rfl rfl (r_loadK (vs := [.int .i64 (us.getD i z57).f0, .int .i64 (us.getD i z57).f1, .int .i64 (us.getD i z57).f2]) rfl rfl Try.isAgg57 Try.sizeOf57 rfl (row_cells (H.rdC p0) i hi)) ?_
            refine WO.salloc 10 (cs := [.int .i64 0, .int .i64 0, .int .i64 0]) rfl rfl rfl Try.zeroValue57 rfl H ?_
            intro g10 w10 H10
            refine WO.v 9 rfl rfl (r_assignI rfl rfl) ?_
            refine WO.sstoreK (vs := [.int .i64 (us.getD i z57).f0, .int .i64 (us.getD i z57).f1, .int .i64 (us.getD i z57).f2]) rfl rfl rfl rfl rfl rfl rfl Try.sizeOf57 rfl H10 p0 rfl ?_
            intro w11 H11
            have hf : ∀ W, St w Em [Bk g10 [.int .i64 (us.getD i z57).f0, .int .i64 (us.getD i z57).f1, .int .i64 (us.getD i z57).f2] 57, RT (some ⟨gg, 0, none⟩) c' us, Bk g4 [.int .i64 now, .int .i64 order, .slice (some ⟨gg, 0, none⟩) us.length c'] 69, Bk g2 [.int .i64 0, .int .i64 0, .slice none 0 0] 69] W → Calls Try.prog 60 #[.pointer (some ⟨g4, 0, none⟩), .int .i64 (us.getD i z57).f0] W fun e w' => e = .returned (.int .i64 (fidx (us.getD i z57).f0 us)) ∧
                St w Em [Bk g10 [.int .i64 (us.getD i z57).f0, .int .i64 (us.getD i z57).f1, .int .i64 (us.getD i z57).f2] 57, RT (some ⟨gg, 0, none⟩) c' us, Bk g4 [.int .i64 now, .int .i64 order, .slice (some ⟨gg, 0, none⟩) us.length c'] 69, Bk g2 [.int .i64 0, .int .i64 0, .slice none 0 0] 69] w' := fun W hW =>
              (find_calls g4 (us.getD i z57).f0 (some ⟨gg, 0, none⟩) c' us W (hW.cell p2 rfl) (hW.rdC p1)).mono fun e w' h => ⟨h.1, hW.step h.2⟩
            refine WO.done (Run.seq (Run.quiet _ (by kernel_rfl) (by kernel_rfl) (H11.step ⟨rfl, rfl, rfl, Nat.le_refl _, fun _ _ => rfl⟩) _ rfl ?_))
            refine WQ.v 85 rfl (fun W hW => r_moveI rfl rfl) ?_
            by_cases h0 : (0 : Int) < (i : Int)
            · refine WQ.v 86 rfl (fun W hW => r_gtr rfl rfl rfl (decide_eq_true h0)) ?_
              refine WQ.v 87 rfl (fun W hW => r_moveB rfl rfl) ?_
              refine WQ.v 88 rfl (fun W hW => r_fieldAddr rfl h4 Try.underlying69 rfl Try.sizeOf55 rfl) ?_
              refine WQ.v 89 rfl (fun W hW => r_load rfl rfl Try.isAgg55 (hW.cell p2 rfl)) ?_
              refine WQ.v 90 rfl (fun W hW => r_moveI rfl rfl) ?_
              refine WQ.v 91 rfl (fun W hW => r_sub rfl rfl rfl (c := ((i - 1 : Nat) : Int)) ((wrap_in (by omega) (by omega)).trans (by omega))) ?_
              refine WQ.v 92 rfl (fun W hW => r_indexAddr rfl rfl rfl Try.underlying55 Try.sizeOf57 (by omega) (by omega) (q := 0 + (i - 1) * 3) (by rw [Int.toNat_natCast])) ?_
              refine WQ.v 93 rfl (fun W hW => r_fieldAddr rfl rfl Try.underlying57 rfl Try.sizeOf3 (q := 0 + (i - 1) * 3 + 2) rfl) ?_
              refine WQ.v 94 rfl (fun W hW => r_load (v := .int .i64 (us.getD (i - 1) z57).f2) rfl rfl Try.isAgg3 (row_cells (hW.rdC p1) (i - 1) (by omega) 2 _ rfl)) ?_
              refine WQ.v 95 rfl (fun W hW => r_fieldAddr rfl rfl Try.underlying57 rfl Try.sizeOf3 rfl) ?_
              refine WQ.v 96 rfl (fun W hW => r_load rfl rfl Try.isAgg3 (hW.cell p0 rfl)) ?_
              by_cases he : (us.getD (i - 1) z57).f2 = (us.getD i z57).f2
              · refine WQ.v 97 rfl (fun W hW => r_eql rfl rfl rfl (decide_eq_true he)) ?_
                refine WQ.v 98 rfl (fun W hW => r_pickB rfl rfl rfl) ?_
                refine WQ.v 99 rfl (fun W hW => r_moveB rfl rfl) ?_
                refine WQ.x 100 rfl ?_
                refine WQ.x 101 rfl ?_
                refine WQ.x 102 rfl ?_
                refine WQ.x 103 rfl ?_
                refine WQ.x 104 rfl ?_
                refine WQ.v 105 rfl (fun W hW => r_pickB rfl rfl rfl) ?_
                refine WQ.done (fun w12 H12 => ?_)
                refine Run.condT rfl (Run.seq (Run.regionL [0, 1, 2] rfl ?_))
                refine WO.v 106 rfl rfl (r_loadK (vs := [.int .i64 now, .int .i64 order, .slice (some ⟨gg, 0, none⟩) us.length c']) rfl h4 Try.isAgg69 Try.sizeOf69 rfl (H12.cells p2)) ?_
                refine WO.sstoreK (vs := [.int .i64 now, .int .i64 order, .slice (some ⟨gg, 0, none⟩) us.length c']) rfl rfl rfl h2 rfl rfl rfl Try.sizeOf69 rfl H12 p3 rfl ?_
                intro wS HS
                refine WO.v 3 rfl rfl (r_assignB rfl rfl) ?_
                exact WO.done (Run.ret2 (v2 := .bool false) Try.func38 Try.results38 ⟨_, h2, run_loadVarK Try.isAgg69 Try.sizeOf69 rfl (HS.cells p3)⟩ rfl ⟨[RT (some ⟨gg, 0, none⟩) c' us], ⟨(some ⟨gg, 0, none⟩), c', us, false, rfl, rfl, fun h => Bool.noConfusion h, fun _ => nogood i hi (fun ht => ht.1 (by omega) he)⟩, HS.sel (.c q1 .n)⟩)
              · refine WQ.v 97 rfl (fun W hW => r_eql rfl rfl rfl (decide_eq_false he)) ?_
                refine WQ.v 98 rfl (fun W hW => r_pickB rfl rfl rfl) ?_
                refine WQ.v 99 rfl (fun W hW => r_moveB rfl rfl) ?_
                refine WQ.v 100 rfl (fun W hW => r_fieldAddr rfl rfl Try.underlying57 rfl Try.sizeOf3 rfl) ?_
                refine WQ.v 101 rfl (fun W hW => r_load rfl rfl Try.isAgg3 (hW.cell p0 rfl)) ?_
                refine WQ.c 102 rfl (fun W hW => hf W hW) (fun w => r_call rfl rfl (by simp only [List.map_cons, List.map_nil]; exact congrArg (fun a => #[a, _]) h4) Try.call60) ?_
                refine WQ.v 103 rfl (fun W hW => r_moveI rfl rfl) ?_
                by_cases hfi : fidx (us.getD i z57).f0 us = i
                · refine WQ.v 104 rfl (fun W hW => r_neq rfl rfl rfl (decide_eq_false (fun h => h hfi))) ?_
                  refine WQ.v 105 rfl (fun W hW => r_pickB rfl rfl rfl) ?_
                  refine WQ.done (fun w12 H12 => ?_)
                  refine Run.condF rfl (Run.skip (Run.blockEnd (Run.regionL [0, 1] rfl ?_)))
                  refine WO.v 107 rfl rfl (r_add rfl h80 rfl (c := (i : Int) + 1) (wrap_in (by omega) (by omega))) ?_
                  refine WO.v 80 rfl rfl (r_moveI rfl rfl) ?_
                  refine WO.done (ih (m2 - 1) _ _ (by omega) ⟨i + 1, by omega, h2, h4, h78, h79, rfl, H12.sel (.c q1 (.c q1 (.c q1 .n))), fun i' hi' => ?_⟩)
                  by_cases e : i' = i
                  · rw [e]; exact ⟨fun _ => he, hfi⟩
                  · exact htok i' (by omega)
                · refine WQ.v 104 rfl (fun W hW => r_neq rfl rfl rfl (decide_eq_true hfi)) ?_
                  refine WQ.v 105 rfl (fun W hW => r_pickB rfl rfl rfl) ?_
                  refine WQ.done (fun w12 H12 => ?_)
                  refine Run.condT rfl (Run.seq (Run.regionL [0, 1, 2] rfl ?_))
                  refine WO.v 106 rfl rfl (r_loadK (vs := [.int .i64 now, .int .i64 order, .slice (some ⟨gg, 0, none⟩) us.length c']) rfl h4 Try.isAgg69 Try.sizeOf69 rfl (H12.cells p2)) ?_
                  refine WO.sstoreK (vs := [.int .i64 now, .int .i64 order, .slice (some ⟨gg, 0, none⟩) us.length c']) rfl rfl rfl h2 rfl rfl rfl Try.sizeOf69 rfl H12 p3 rfl ?_
                  intro wS HS
                  refine WO.v 3 rfl rfl (r_assignB rfl rfl) ?_
                  exact WO.done (Run.ret2 (v2 := .bool false) Try.func38 Try.results38 ⟨_, h2, run_loadVarK Try.isAgg69 Try.sizeOf69 rfl (HS.cells p3)⟩ rfl ⟨[RT (some ⟨gg, 0, none⟩) c' us], ⟨(some ⟨gg, 0, none⟩), c', us, false, rfl, rfl, fun h => Bool.noConfusion h, fun _ => nogood i hi (fun ht => hfi ht.2)⟩, HS.sel (.c q1 .n)⟩)
            · refine WQ.v 86 rfl (fun W hW => r_gtr rfl rfl rfl (decide_eq_false h0)) ?_
              refine WQ.v 87 rfl (fun W hW => r_moveB rfl rfl) ?_
              refine WQ.x 88 rfl ?_
              refine WQ.x 89 rfl ?_
              refine WQ.x 90 rfl ?_
              refine WQ.x 91 rfl ?_
              refine WQ.x 92 rfl ?_
              refine WQ.x 93 rfl ?_
              refine WQ.x 94 rfl ?_
              refine WQ.x 95 rfl ?_
              refine WQ.x 96 rfl ?_
              refine WQ.x 97 rfl ?_
              refine WQ.v 98 rfl (fun W hW => r_pickB rfl rfl rfl) ?_
              refine WQ.v 99 rfl (fun W hW => r_moveB rfl rfl) ?_
              refine WQ.v 100 rfl (fun W hW => r_fieldAddr rfl rfl Try.underlying57 rfl Try.sizeOf3 rfl) ?_
              refine WQ.v 101 rfl (fun W hW => r_load rfl rfl Try.isAgg3 (hW.cell p0 rfl)) ?_
              refine WQ.c 102 rfl (fun W hW => hf W hW) (fun w => r_call rfl rfl (by simp only [List.map_cons, List.map_nil]; exact congrArg (fun a => #[a, _]) h4) Try.call60) ?_
              refine WQ.v 103 rfl (fun W hW => r_moveI rfl rfl) ?_
              by_cases hfi : fidx (us.getD i z57).f0 us = i
              · refine WQ.v 104 rfl (fun W hW => r_neq rfl rfl rfl (decide_eq_false (fun h => h hfi))) ?_
                refine WQ.v 105 rfl (fun W hW => r_pickB rfl rfl rfl) ?_
                refine WQ.done (fun w12 H12 => ?_)
                refine Run.condF rfl (Run.skip (Run.blockEnd (Run.regionL [0, 1] rfl ?_)))
                refine WO.v 107 rfl rfl (r_add rfl h80 rfl (c := (i : Int) + 1) (wrap_in (by omega) (by omega))) ?_
                refine WO.v 80 rfl rfl (r_moveI rfl rfl) ?_
                refine WO.done (ih (m2 - 1) _ _ (by omega) ⟨i + 1, by omega, h2, h4, h78, h79, rfl, H12.sel (.c q1 (.c q1 (.c q1 .n))), fun i' hi' => ?_⟩)
                by_cases e : i' = i
                · rw [e]; exact ⟨fun h => absurd h (by omega), hfi⟩
                · exact htok i' (by omega)
              · refine WQ.v 104 rfl (fun W hW => r_neq rfl rfl rfl (decide_eq_true hfi)) ?_
                refine WQ.v 105 rfl (fun W hW => r_pickB rfl rfl rfl) ?_
                refine WQ.done (fun w12 H12 => ?_)
                refine Run.condT rfl (Run.seq (Run.regionL [0, 1, 2] rfl ?_))
                refine WO.v 106 rfl rfl (r_loadK (vs := [.int .i64 now, .int .i64 order, .slice (some ⟨gg, 0, none⟩) us.length c']) rfl h4 Try.isAgg69 Try.sizeOf69 rfl (H12.cells p2)) ?_
                refine WO.sstoreK (vs := [.int .i64 now, .int .i64 order, .slice (some ⟨gg, 0, none⟩) us.length c']) rfl rfl rfl h2 rfl rfl rfl Try.sizeOf69 rfl H12 p3 rfl ?_
                intro wS HS
                refine WO.v 3 rfl rfl (r_assignB rfl rfl) ?_
                exact WO.done (Run.ret2 (v2 := .bool false) Try.func38 Try.results38 ⟨_, h2, run_loadVarK Try.isAgg69 Try.sizeOf69 rfl (HS.cells p3)⟩ rfl ⟨[RT (some ⟨gg, 0, none⟩) c' us], ⟨(some ⟨gg, 0, none⟩), c', us, false, rfl, rfl, fun h => Bool.noConfusion h, fun _ => nogood i hi (fun ht => hfi ht.2)⟩, HS.sel (.c q1 .n)⟩)
          · have hall : ∀ i, i < us.length → TOK us i := fun i' hi' => htok i' (by omega)
            have hnd := tok_nodup us hall hsorted
            have hG : Good now order lv := ⟨hn.1, hn.2, ho.1, ho.2, by omega, fun l hl => hlev l (by omega), by rw [← hts']; exact hfew, by rw [← hts']; exact (hp.map _).nodup_iff.1 hnd.1, by rw [← hts']; exact (hp.map _).nodup_iff.1 hnd.2⟩
            refine Run.exit rfl (Run.seq (Run.regionL [0, 1, 2] rfl ?_))
            refine WO.v 108 rfl rfl (r_loadK (vs := [.int .i64 now, .int .i64 order, .slice A' us.length c']) rfl h4 Try.isAgg69 Try.sizeOf69 rfl (H.cells p1)) ?_
            refine WO.sstoreK (vs := [.int .i64 now, .int .i64 order, .slice A' us.length c']) rfl rfl rfl h2 rfl rfl rfl Try.sizeOf69 rfl H p2 rfl ?_
            intro wS HS
            refine WO.v 3 rfl rfl (r_assignB rfl rfl) ?_
            exact WO.done (Run.ret2 (v2 := .bool true) Try.func38 Try.results38 ⟨_, h2, run_loadVarK Try.isAgg69 Try.sizeOf69 rfl (HS.cells p2)⟩ rfl ⟨[RT A' c' us], ⟨A', c', us, true, rfl, rfl, fun _ => ⟨hG, by rw [← hts']; exact hp, hsorted⟩, fun h => Bool.noConfusion h⟩, HS.sel (.c q0 .n)⟩)
      · refine WO.v 30 rfl rfl (r_neq rfl rfl rfl (decide_eq_true h3)) ?_
        refine WO.v 31 rfl rfl (r_pickB rfl rfl rfl) ?_
        refine WO.done (Run.condT rfl (Run.seq (Run.regionL [0, 1, 2] rfl ?_)))
        refine WO.v 32 rfl rfl (r_loadK (vs := [.int .i64 now, .int .i64 order, .slice none ([] : List S57).length 0]) rfl rfl Try.isAgg69 Try.sizeOf69 rfl (H5.cells p1)) ?_
        refine WO.sstoreK (vs := [.int .i64 now, .int .i64 order, .slice none ([] : List S57).length 0]) rfl rfl rfl rfl rfl rfl rfl Try.sizeOf69 rfl H5 p2 rfl ?_
        intro wS HS
        refine WO.v 3 rfl rfl (r_assignB rfl rfl) ?_
        exact WO.done (Run.ret2 (v2 := .bool false) Try.func38 Try.results38 ⟨_, rfl, run_loadVarK Try.isAgg69 Try.sizeOf69 rfl (HS.cells p2)⟩ rfl ⟨[RT none 0 ([] : List S57)], ⟨none, 0, ([] : List S57), false, rfl, rfl, fun h => Bool.noConfusion h, fun _ => fun hG => h3 (by have := hG.three; omega)⟩, HS.sel (.c q0 .n)⟩)
    · rw [decide_eq_false ho]
      refine WO.v 24 rfl rfl (r_not rfl rfl rfl) ?_
      refine WO.v 25 rfl rfl (r_pickB rfl rfl rfl) ?_
      refine WO.v 26 rfl rfl (r_moveB rfl rfl) ?_
      refine WO.x 27 rfl rfl ?_
      refine WO.x 28 rfl rfl ?_
      refine WO.x 29 rfl rfl ?_
      refine WO.x 30 rfl rfl ?_
      refine WO.v 31 rfl rfl (r_pickB rfl rfl rfl) ?_
      refine WO.done (Run.condT rfl (Run.seq (Run.regionL [0, 1, 2] rfl ?_)))
      refine WO.v 32 rfl rfl (r_loadK (vs := [.int .i64 now, .int .i64 order, .slice none ([] : List S57).length 0]) rfl rfl Try.isAgg69 Try.sizeOf69 rfl (H5.cells p1)) ?_
      refine WO.sstoreK (vs := [.int .i64 now, .int .i64 order, .slice none ([] : List S57).length 0]) rfl rfl rfl rfl rfl rfl rfl Try.sizeOf69 rfl H5 p2 rfl ?_
      intro wS HS
      refine WO.v 3 rfl rfl (r_assignB rfl rfl) ?_
      exact WO.done (Run.ret2 (v2 := .bool false) Try.func38 Try.results38 ⟨_, rfl, run_loadVarK Try.isAgg69 Try.sizeOf69 rfl (HS.cells p2)⟩ rfl ⟨[RT none 0 ([] : List S57)], ⟨none, 0, ([] : List S57), false, rfl, rfl, fun h => Bool.noConfusion h, fun _ => fun hG => ho ⟨hG.o0, hG.o1⟩⟩, HS.sel (.c q0 .n)⟩)
  · rw [decide_eq_false hn]
    refine WO.v 19 rfl rfl (r_not rfl rfl rfl) ?_
    refine WO.v 20 rfl rfl (r_moveB rfl rfl) ?_
    refine WO.x 21 rfl rfl ?_
    refine WO.x 22 rfl rfl ?_
    refine WO.x 23 rfl rfl ?_
    refine WO.x 24 rfl rfl ?_
    refine WO.v 25 rfl rfl (r_pickB rfl rfl rfl) ?_
    refine WO.v 26 rfl rfl (r_moveB rfl rfl) ?_
    refine WO.x 27 rfl rfl ?_
    refine WO.x 28 rfl rfl ?_
    refine WO.x 29 rfl rfl ?_
    refine WO.x 30 rfl rfl ?_
    refine WO.v 31 rfl rfl (r_pickB rfl rfl rfl) ?_
    refine WO.done (Run.condT rfl (Run.seq (Run.regionL [0, 1, 2] rfl ?_)))
    refine WO.v 32 rfl rfl (r_loadK (vs := [.int .i64 now, .int .i64 order, .slice none ([] : List S57).length 0]) rfl rfl Try.isAgg69 Try.sizeOf69 rfl (H5.cells p1)) ?_
    refine WO.sstoreK (vs := [.int .i64 now, .int .i64 order, .slice none ([] : List S57).length 0]) rfl rfl rfl rfl rfl rfl rfl Try.sizeOf69 rfl H5 p2 rfl ?_
    intro wS HS
    refine WO.v 3 rfl rfl (r_assignB rfl rfl) ?_
    exact WO.done (Run.ret2 (v2 := .bool false) Try.func38 Try.results38 ⟨_, rfl, run_loadVarK Try.isAgg69 Try.sizeOf69 rfl (HS.cells p2)⟩ rfl ⟨[RT none 0 ([] : List S57)], ⟨none, 0, ([] : List S57), false, rfl, rfl, fun h => Bool.noConfusion h, fun _ => fun hG => hn ⟨hG.n0, hG.n1⟩⟩, HS.sel (.c q0 .n)⟩)
end Go.Proofs.Ytojpimpfpjhflaa.Wh
namespace Go.Proofs
open Go.Shelf Go.RowKit Go.Lib Go.Sort
def Try.sortT_ren : Go.Shelf.Ren := ⟨fun | 6 => 58 | 15 => 72 | 14 => 71 | 28 => 88 | 29 => 89 | 20 => 80 | 21 => 81 | 22 => 82 | 23 => 83 | 24 => 84 | 25 => 85 | 26 => 86 | 27 => 87 | 46 => 91 | 47 => 92 | 48 => 93 | 49 => 94 | 50 => 95 | 57 => 96 | n => n, fun | 22 => 55 | 24 => 57 | 25 => 91 | 3 => 3 | 39 => 104 | 0 => 0 | 53 => 121 | 55 => 123 | 4 => 4 | 46 => 114 | 45 => 113 | 50 => 118 | 5 => 5 | 9 => 9 | 66 => 125 | 70 => 129 | 76 => 131 | 77 => 33 | n => n, fun | n => n⟩
theorem Try.sortT : SlLaysF0.n6 Try.prog Try.sortT_ren := {
  mixed := by kernel_rfl,
  f6 := ⟨Try.f58.name, by decide, Try.func58.trans (congrArg some (by kernel_rfl))⟩,
  f14 := ⟨Try.f71.name, by decide, Try.func71.trans (congrArg some (by kernel_rfl))⟩,
  f15 := Try.func72.trans (congrArg some (by kernel_rfl)),
  f20 := ⟨Try.f80.name, by decide, Try.func80.trans (congrArg some (by kernel_rfl))⟩,
  f21 := ⟨Try.f81.name, by decide, Try.func81.trans (congrArg some (by kernel_rfl))⟩,
  f22 := ⟨Try.f82.name, by decide, Try.func82.trans (congrArg some (by kernel_rfl))⟩,
  f23 := ⟨Try.f83.name, by decide, Try.func83.trans (congrArg some (by kernel_rfl))⟩,
  f24 := ⟨Try.f84.name, by decide, Try.func84.trans (congrArg some (by kernel_rfl))⟩,
  f25 := ⟨Try.f85.name, by decide, Try.func85.trans (congrArg some (by kernel_rfl))⟩,
  f26 := ⟨Try.f86.name, by decide, Try.func86.trans (congrArg some (by kernel_rfl))⟩,
  f27 := ⟨Try.f87.name, by decide, Try.func87.trans (congrArg some (by kernel_rfl))⟩,
  f28 := Try.func88.trans (congrArg some (by kernel_rfl)),
  f29 := Try.func89.trans (congrArg some (by kernel_rfl)),
  f46 := ⟨Try.f91.name, by decide, Try.func91.trans (congrArg some (by kernel_rfl))⟩,
  f47 := Try.func92.trans (congrArg some (by kernel_rfl)),
  f48 := Try.func93.trans (congrArg some (by kernel_rfl)),
  f49 := ⟨Try.f94.name, by decide, Try.func94.trans (congrArg some (by kernel_rfl))⟩,
  f50 := ⟨Try.f95.name, by decide, Try.func95.trans (congrArg some (by kernel_rfl))⟩,
  f57 := ⟨Try.f96.name, by decide, Try.func96.trans (congrArg some (by kernel_rfl))⟩,
  t0 := Try.underlying0,
  a0 := Try.isAgg0,
  z0 := Try.sizeOf0,
  v0 := Try.zeroValue0,
  t3 := Try.underlying3,
  a3 := Try.isAgg3,
  z3 := Try.sizeOf3,
  v3 := Try.zeroValue3,
  t4 := Try.underlying4,
  a4 := Try.isAgg4,
  z4 := Try.sizeOf4,
  v4 := Try.zeroValue4,
  t5 := Try.underlying5,
  a5 := Try.isAgg5,
  z5 := Try.sizeOf5,
  v5 := Try.zeroValue5,
  t9 := Try.underlying9,
  a9 := Try.isAgg9,
  z9 := Try.sizeOf9,
  v9 := Try.zeroValue9,
  t22 := Try.underlying55,
  a22 := Try.isAgg55,
  z22 := Try.sizeOf55,
  v22 := Try.zeroValue55,
  t25 := Try.underlying91,
  a25 := Try.isAgg91,
  z25 := Try.sizeOf91,
  v25 := Try.zeroValue91,
  t39 := Try.underlying104,
  a39 := Try.isAgg104,
  z39 := Try.sizeOf104,
  v39 := Try.zeroValue104,
  t45 := Try.underlying113,
  a45 := Try.isAgg113,
  z45 := Try.sizeOf113,
  v45 := Try.zeroValue113,
  t46 := Try.underlying114,
  a46 := Try.isAgg114,
  z46 := Try.sizeOf114,
  v46 := Try.zeroValue114,
  t50 := Try.underlying118,
  a50 := Try.isAgg118,
  z50 := Try.sizeOf118,
  v50 := Try.zeroValue118,
  t53 := Try.underlying121,
  a53 := Try.isAgg121,
  z53 := Try.sizeOf121,
  v53 := Try.zeroValue121,
  t55 := Try.underlying123,
  a55 := Try.isAgg123,
  z55 := Try.sizeOf123,
  v55 := Try.zeroValue123,
  t66 := Try.underlying125,
  a66 := Try.isAgg125,
  z66 := Try.sizeOf125,
  v66 := Try.zeroValue125,
  t70 := Try.underlying129,
  a70 := Try.isAgg129,
  z70 := Try.sizeOf129,
  v70 := Try.zeroValue129,
  t76 := Try.underlying131,
  a76 := Try.isAgg131,
  z76 := Try.sizeOf131,
  v76 := Try.zeroValue131,
  t77 := Try.underlying33,
  a77 := Try.isAgg33,
  z77 := Try.sizeOf33,
  v77 := Try.zeroValue33 }
end Go.Proofs
namespace Go.Proofs.Ytojpimpfpjhflaa.Wh
open Go.RowKit Go.Proofs.Ytojpimpfpjhflaa.Fw Go.Proofs.YtojpimpfpjhflaaW.PrintWords Go.Proofs.Ytojpimpfpjhflaa.PFnExactWheelOK
set_option linter.unusedVariables false
set_option linter.unusedSimpArgs false

/-- A timer whose order lies in the clock's range. -/
abbrev TO := { x : S57 // 0 ≤ x.f2 ∧ x.f2 ≤ 1000000 }
instance : Inhabited TO := ⟨⟨z57, by decide⟩⟩
def encO (x : TO) : List Value := encT x.val
def cmpO (x y : TO) : Int := x.val.f2 - y.val.f2
theorem swoO : Go.Sort.SWO (ltOf cmpO) where
  irrefl x := by simp [ltOf, cmpO]
  trans x y z h1 h2 := by
    have a := of_decide_eq_true h1
    have b := of_decide_eq_true h2
    exact decide_eq_true (by unfold cmpO at *; omega)
  ntrans x y z h1 h2 := by
    have a := of_decide_eq_false h1
    have b := of_decide_eq_false h2
    exact decide_eq_false (by unfold cmpO at *; omega)

/-- unwind's closure: a.Order - b.Order. -/
theorem closure59 (x y : TO) (W : World) : Calls Try.prog 59 #[.agg (encO x).toArray, .agg (encO y).toArray] W fun e w' => e = .returned (.int .i64 (cmpO x y)) ∧ ∃ q os', w' = Go.Sort.grow (W.drewN q) os' := by
  have hx := x.2
  have hy := y.2
  have hb := (Blk.new W [.int .i64 x.val.f0, .int .i64 x.val.f1, .int .i64 x.val.f2] 57).alloc (.cells #[.int .i64 y.val.f0, .int .i64 y.val.f1, .int .i64 y.val.f2] 57)
  have hb2 := Blk.new (W.alloc (.cells #[.int .i64 x.val.f0, .int .i64 x.val.f1, .int .i64 x.val.f2] 57)) [.int .i64 y.val.f0, .int .i64 y.val.f1, .int .i64 y.val.f2] 57
  refine calls_of_run (fn := Try.f59) (n := 10) Try.func59 rfl Try.ntmps59 (Nat.le_of_ble_eq_true rfl) ?_
  refine Run.seq (Run.regionL [0, 1, 2] rfl ?_)
  refine WO.v 2 rfl rfl (r_box (cs := #[.int .i64 x.val.f0, .int .i64 x.val.f1, .int .i64 x.val.f2]) rfl rfl rfl) ?_
  refine WO.v 3 rfl rfl (r_box (cs := #[.int .i64 y.val.f0, .int .i64 y.val.f1, .int .i64 y.val.f2]) rfl rfl rfl) ?_
  refine WO.v 4 rfl rfl (r_assignI rfl rfl) ?_
  refine WO.done (Run.seq (Run.regionL [0, 1, 2, 3, 4, 5] rfl ?_))
  refine WO.v 5 rfl rfl (r_fieldAddr rfl rfl Try.underlying57 rfl Try.sizeOf3 rfl) ?_
  refine WO.v 6 rfl rfl (r_load rfl rfl Try.isAgg3 (hb.cell 2 _ rfl)) ?_
  refine WO.v 7 rfl rfl (r_fieldAddr rfl rfl Try.underlying57 rfl Try.sizeOf3 rfl) ?_
  refine WO.v 8 rfl rfl (r_load rfl rfl Try.isAgg3 (hb2.cell 2 _ rfl)) ?_
  refine WO.v 9 rfl rfl (r_sub rfl rfl rfl (wrap_in (by omega) (by omega))) ?_
  refine WO.v 4 rfl rfl (r_assignI rfl rfl) ?_
  exact WO.done (Run.ret1 (v1 := .int .i64 (cmpO x y)) Try.func59 Try.results59 rfl ⟨rfl, 0, _, by rw [Go.Sort.alloc_eq_grow, Go.Sort.alloc_eq_grow, Go.Sort.grow_grow]; rfl⟩)
theorem cmpLays59 (blk off size : Nat) (w : World) : CmpLays Try.prog 59 #[] encO 3 cmpO blk off size w := fun _ _ _ _ x y => closure59 x y _

theorem bigs57 {w : World} : ∀ {ts : List S57} {vss : List (List Value)} {S : Fp}, bigs o57 w S ts vss → vss = ts.map encT
  | [], [], _, _ => rfl
  | x :: xs, vs :: vss, S, ⟨S1, S2, h1, h2, _⟩ => by
    obtain ⟨_, _, _, _, rfl, rfl, ⟨_, _, _, _, rfl, rfl, rfl, _⟩, _⟩ := h1
    rw [bigs57 h2]
    rfl
theorem flatT_map (ts : List S57) : (ts.map encT).flatten = flatT ts := by rw [flatT, List.flatMap_def]
theorem rowP57 {w : World} {S : Fp} {v : Value} {ts : List S57} (h : rowP o57 57 w S v ts) : (∀ k, v.ownBlock = some k → S k) ∧ w.ownsRow 0 57 3 v ts.length (flatT ts) := by
  obtain ⟨vss, h1, h2, h3⟩ := h
  rw [bigs57 h3, flatT_map] at h2
  exact ⟨h1, h2⟩
theorem rowP57_mk {w : World} {S : Fp} {v : Value} {ts : List S57} (h1 : ∀ k, v.ownBlock = some k → S k) (h2 : w.ownsRow 0 57 3 v ts.length (flatT ts)) : rowP o57 57 w S v ts :=
  ⟨ts.map encT, h1, by rw [flatT_map]; exact h2, bigs_flat flat57 (by simp) fun j x vs hx hv => by
    rw [List.getElem?_map, hx] at hv
    cases hv
    exact k57_mk w x⟩

theorem sort_rw : SortRw := by
  intro A c ts w hord hfew S hS hl
  obtain ⟨S1, S2, hrow, _, _, hS1, _⟩ := hS
  obtain ⟨hob, hown⟩ := rowP57 hrow
  have eg : ∀ args w, (callFunc 59 args).run Try.prog w = .ok (.enter 59 args) w := Try.call59
  cases ts with
  | nil =>
    have h := AnyF.slices_SortFunc_none Try.sortT A c (.func (.func 59) #[] #[]) w
    change Calls Try.prog 58 _ _ _ at h
    refine h.mono ?_
    rintro e w' ⟨rfl, rfl⟩
    exact ⟨[RT A c []], ⟨rfl, [], List.Perm.refl _, List.Pairwise.nil, rfl⟩, St.start ⟨S1, Em, hrow, trivial, fun _ _ h => h, hS1, fun _ h => h.elim⟩ hl⟩
  | cons t0 ts0 =>
    generalize hts : t0 :: ts0 = ts at *
    have hn : 0 < ts.length := by rw [← hts]; simp
    clear hts
    rcases hown.2 with ⟨_, h0⟩ | ⟨g, cap, cur, he, _, hh, hnc, hcm, hcs, htk⟩
    · omega
    cases he
    have hg : g < w.heap.size := (Array.getElem?_eq_some_iff.1 hh).1
    generalize hd : (ts.attach.map fun x => (⟨x.1, hord x.1 x.2⟩ : TO)).toArray = d
    have hds : d.size = ts.length := by rw [← hd]; simp
    have hdl : d.toList.map (·.val) = ts := by rw [← hd]; simp
    have hdg : ∀ i, i < ts.length → (d[i]!).val = ts.getD i z57 := fun i hi => by
      rw [getElem!_pos d i (by omega)]
      have : (d.toList.map (·.val))[i]? = some (d[i].val) := by simp [List.getElem?_eq_getElem, hds, hi]
      rw [hdl] at this
      simp [List.getD_eq_getElem?_getD, this]
    have hH : Go.Sort.HoldsK encO 3 w g 0 d := by
      intro j hj
      rw [Go.Sort.size_flatK, hds] at hj
      have hj3 : j / 3 < ts.length := by omega
      rw [Go.Sort.get_flatK _ _ _ _ (by rw [hds]; exact hj), Nat.zero_add]
      refine ⟨?_, by simp [World.frozen?, hh]⟩
      have h1 : (flatT ts)[j]? = (encT (ts.getD (j / 3) z57))[j % 3]? := by
        have := flatT_get ts (j / 3) (j % 3) (by omega) hj3
        rwa [show j / 3 * 3 + j % 3 = j from by omega] at this
      rw [← htk, List.getElem?_take_of_lt hj] at h1
      have h2 : w.cell? ⟨g, j, none⟩ = cur[j]? := by simp [World.cell?, hh]
      rw [h2, ← Array.getElem?_toList, h1, show encO d[j / 3]! = encT (ts.getD (j / 3) z57) from by rw [encO, hdg _ hj3]]
      have hl3 : j % 3 < (encT (ts.getD (j / 3) z57)).length := by simp [encT]; omega
      rw [List.getElem?_eq_getElem hl3, getElem!_pos (encT (ts.getD (j / 3) z57)) (j % 3) hl3]
      rfl
    have h := AnyQ.slices_SortFunc Try.sortT 3 Try.isAgg57 Try.sizeOf57 encO (fun _ => rfl) (fun x v hv => by simp [encO, encT] at hv; rcases hv with rfl | rfl | rfl <;> rfl) cmpO swoO 59 #[] g 0 c d w eg (cmpLays59 g 0 d.size w) hH hg (by omega)
    change Calls Try.prog 58 _ _ _ at h
    rw [hds] at h
    refine h.mono ?_
    rintro e w' ⟨rfl, d', n, os, hp, hs, rfl⟩
    obtain ⟨p1', _, p3⟩ := hp
    have p1 : d'.size = ts.length := p1'.trans hds
    have hp' : d'.toList.Perm d.toList := by
      have e1 : d'.extract 0 ts.length = d' := by rw [← p1]; exact Array.extract_size
      have e2 : d.extract 0 ts.length = d := by rw [← hds]; exact Array.extract_size
      rwa [e1, e2] at p3
    have hpt : (d'.toList.map (·.val)).Perm ts := by
      have := hp'.map (·.val)
      rwa [hdl] at this
    have hlen : (d'.toList.map (·.val)).length = ts.length := hpt.length_eq
    have hmut : Mut (fun k => k = g) w (sortWorldK encO 3 w g 0 n d' os) := by
      refine ⟨rfl, rfl, rfl, by simp only [sortWorldK, Go.Sort.putRowK, Go.Sort.putRow, Go.Sort.mapBlock, Go.Sort.ahead, Go.Sort.grow, Array.size_append, Array.size_modify]; omega, fun k hk hne => ?_⟩
      simp only [sortWorldK, Go.Sort.putRowK, Go.Sort.putRow, Go.Sort.mapBlock, Go.Sort.ahead, Go.Sort.grow]
      rw [Array.getElem?_append_left (by simpa using hk), Array.getElem?_modify, if_neg (Ne.symm hne)]
    have hblk : (sortWorldK encO 3 w g 0 n d' os).heap[g]? = some (.cells (Go.Sort.putCells id 0 (Go.Sort.flatK encO 3 d') cur) 57 (0, 0)) := by
      simp only [sortWorldK, Go.Sort.putRowK, Go.Sort.putRow, Go.Sort.mapBlock, Go.Sort.ahead, Go.Sort.grow]
      rw [Array.getElem?_append_left (by simpa using hg), Array.getElem?_modify, if_pos rfl, hh]
      rfl
    refine ⟨[RT (some ⟨g, 0, none⟩) c (d'.toList.map (·.val))], ⟨rfl, _, hpt, ?_, rfl⟩, hmut.mono fun k _ hk => hS1 k (hob k (by rw [hk]; rfl)), fun k => k = g, ⟨fun k => k = g, Em, ?_, trivial, fun _ _ h => h, fun _ h => h, fun _ h => h.elim⟩, fun k hk => ?_⟩
    · refine List.pairwise_iff_getElem.2 fun i j hi hj hij => ?_
      simp at hi hj
      have := hs i j (Nat.zero_le _) hij (by omega)
      rw [getElem!_pos d' i (by omega), getElem!_pos d' j (by omega)] at this
      have h3 := of_decide_eq_false this
      unfold cmpO at h3
      simp only [List.getElem_map, Array.getElem_toList]
      omega
    · refine rowP57_mk (fun k hk => by simpa [Value.ownBlock] using hk.symm) ⟨by rw [flatT_length], .inr ⟨g, c, _, rfl, Nat.zero_le _, hblk, by rw [hlen]; exact hnc, hcm, by simpa [Go.Sort.putCells] using hcs, ?_⟩⟩
      rw [hlen]
      refine List.ext_getElem? fun j => ?_
      have hle : ts.length * 3 ≤ c * 3 := Nat.mul_le_mul_right _ hnc
      by_cases hj : j < ts.length * 3
      · have hj3 : j / 3 < ts.length := by omega
        rw [List.getElem?_take_of_lt hj, Array.getElem?_toList]
        have h1 := flatT_get (d'.toList.map (·.val)) (j / 3) (j % 3) (by omega) (by omega)
        rw [show j / 3 * 3 + j % 3 = j from by omega] at h1
        rw [h1]
        have hjc : j < cur.size := by rw [hcs]; omega
        simp only [Go.Sort.putCells, Array.getElem?_mapIdx, Array.getElem?_eq_getElem hjc, Option.map_some, Go.Sort.size_flatK, p1]
        rw [if_pos ⟨Nat.zero_le _, by omega⟩, Nat.sub_zero, Go.Sort.get_flatK _ _ _ _ (by omega)]
        have e3 : (d'.toList.map (·.val)).getD (j / 3) z57 = (d'[j / 3]!).val := by
          rw [getElem!_pos d' (j / 3) (by omega)]
          simp [List.getD_eq_getElem?_getD, List.getElem?_eq_getElem, p1, hj3]
        rw [e3]
        have hl3 : j % 3 < (encT (d'[j / 3]!).val).length := by simp [encT]; omega
        rw [List.getElem?_eq_getElem hl3, show encO d'[j / 3]! = encT (d'[j / 3]!).val from rfl, getElem!_pos (encT (d'[j / 3]!).val) (j % 3) hl3]
        rfl
      · rw [List.getElem?_eq_none (by rw [List.length_take]; omega), List.getElem?_eq_none (by rw [flatT_length]; omega)]
    · subst hk
      exact ⟨(Array.getElem?_eq_some_iff.1 hblk).1, .inl (hS1 _ (hob _ rfl))⟩
end Go.Proofs.Ytojpimpfpjhflaa.Wh
namespace Go.Proofs.Ytojpimpfpjhflaa.Wh
open Go.RowKit Go.Proofs.Ytojpimpfpjhflaa.Fw Go.Proofs.YtojpimpfpjhflaaW.PrintWords Go.Proofs.Ytojpimpfpjhflaa.PFnExactWheelOK
set_option linter.unusedVariables false
set_option linter.unusedSimpArgs false

def cv3 (l : List (List (List S111))) : List (List (List S57)) := l.map (List.map (List.map cv))
theorem toWheel_tri (now order : Int) (A : Option Addr) (c : Nat) (l : List (List (List S111))) (w : World) (hr : Kd.C (Kd.slice 100 (Kd.slice 111 k111)) w A l.length l) (hs : szSSS l ≤ 1048576) :
    Tri Try.prog 12 #[.agg #[.int .i64 now, .int .i64 order, .slice A l.length c]] w [] fun e LQ => ∃ A' c', e = .returned (.agg #[.int .i64 now, .int .i64 order, .slice A' (cv3 l).length c']) ∧ LQ = [Rw o54 54 (.slice A' (cv3 l).length c') (cv3 l)] := by
  refine tri_of_run0 (fn := Try.f12) (n := 15) Try.func12 rfl Try.ntmps12 (Nat.le_of_ble_eq_true rfl) fun H => ?_
  refine Run.seq (Run.regionL [0, 1] rfl ?_)
  refine WO.sbox 1 (cs := [.int .i64 now, .int .i64 order, .slice A l.length c]) rfl rfl rfl rfl H ?_
  intro g1 w1 H1
  refine WO.salloc 2 (cs := [.int .i64 0, .int .i64 0, .slice none 0 0]) rfl rfl rfl Try.zeroValue29 rfl H1 ?_
  intro g2 w2 H2
  refine WO.done (Run.seq (Run.regionL [0] rfl ?_))
  refine WO.salloc 3 (cs := [.int .i64 0, .int .i64 0, .slice none 0 0]) rfl rfl rfl Try.zeroValue29 rfl H2 ?_
  intro g3 w3 H3
  refine WO.done (Run.seq (Run.regionL [0, 1, 2, 3] rfl ?_))
  refine WO.v 4 rfl rfl (r_fieldAddr rfl rfl Try.underlying24 rfl Try.sizeOf3 (q := 0) rfl) ?_
  refine WO.v 5 rfl rfl (r_load rfl rfl Try.isAgg3 (H3.cell p2 rfl)) ?_
  refine WO.v 6 rfl rfl (r_fieldAddr rfl rfl Try.underlying29 rfl Try.sizeOf3 (q := 0) rfl) ?_
  refine WO.sstore rfl rfl rfl rfl rfl rfl Try.sizeOf3 H3 p0 .z ?_
  intro w4 H4
  refine WO.done (Run.seq (Run.regionL [0, 1, 2, 3] rfl ?_))
  refine WO.v 7 rfl rfl (r_fieldAddr rfl rfl Try.underlying24 rfl Try.sizeOf3 (q := 1) rfl) ?_
  refine WO.v 8 rfl rfl (r_load rfl rfl Try.isAgg3 (H4.cell p2 rfl)) ?_
  refine WO.v 9 rfl rfl (r_fieldAddr rfl rfl Try.underlying29 rfl Try.sizeOf3 (q := 1) rfl) ?_
  refine WO.sstore rfl rfl rfl rfl rfl rfl Try.sizeOf3 H4 p0 (.s .z) ?_
  intro w5 H5
  refine WO.done (Run.seq (Run.regionL [0, 1, 2, 3, 4] rfl ?_))
  refine WO.v 10 rfl rfl (r_fieldAddr rfl rfl Try.underlying24 rfl Try.sizeOf22 (q := 2) rfl) ?_
  refine WO.v 11 rfl rfl (r_load rfl rfl Try.isAgg22 (H5.cell p2 rfl)) ?_
  refine WO.scall 12 rfl rfl Try.call37 H5 .n (toTimerSSS_tri A c l w5 (Kd.C_below hr H5.below) hs) rfl rfl ?_
  rintro e LQ w6 ⟨A2, c2, rfl, rfl⟩ H6
  refine ⟨_, rfl, ?_⟩
  refine WO.v 13 rfl rfl (r_fieldAddr rfl rfl Try.underlying29 rfl Try.sizeOf27 (q := 2) rfl) ?_
  refine WO.sstore rfl rfl rfl rfl rfl rfl Try.sizeOf27 H6 p1 (.s (.s .z)) ?_
  intro w7 H7
  refine WO.done (Run.seq (Run.regionL [0, 1] rfl ?_))
  refine WO.v 14 rfl rfl (r_loadK (vs := [.int .i64 now, .int .i64 order, .slice A2 (cv3 l).length c2]) rfl rfl Try.isAgg29 Try.sizeOf29 rfl (H7.cells p1)) ?_
  refine WO.sstoreK (vs := [.int .i64 now, .int .i64 order, .slice A2 (cv3 l).length c2]) rfl rfl rfl rfl rfl rfl rfl Try.sizeOf29 rfl H7 p2 rfl ?_
  intro wS HS
  exact WO.done (Run.ret1 Try.func12 Try.results12 ⟨_, rfl, run_loadVarK Try.isAgg29 Try.sizeOf29 rfl (HS.cells p2)⟩ ⟨[Rw o54 54 (.slice A2 (cv3 l).length c2) (cv3 l)], ⟨A2, c2, rfl, rfl⟩, HS.sel (.c q0 .n)⟩)

theorem eqWheel_calls (now order : Int) (A0 : Option Addr) (c0 : Nat) (A1 : Option Addr) (c1 : Nat) (l : List (List (List S57))) (w : World) (hr0 : Kd.C (Kd.slice 55 (Kd.slice 57 k57)) w A0 l.length l) (hr1 : Kd.C (Kd.slice 55 (Kd.slice 57 k57)) w A1 l.length l) :
    Calls Try.prog 14 #[.agg #[.int .i64 now, .int .i64 order, .slice A0 l.length c0], .agg #[.int .i64 now, .int .i64 order, .slice A1 l.length c1]] w fun e w' => e = .returned (.bool true) ∧ Below w.heap.size w w' := by
  have H := St.nil w
  refine calls_of_run (fn := Try.f14) (n := 21) Try.func14 rfl Try.ntmps14 (Nat.le_of_ble_eq_true rfl) ?_
  refine Run.seq (Run.regionL [0, 1, 2] rfl ?_)
  refine WO.sbox 2 (cs := [.int .i64 now, .int .i64 order, .slice A0 l.length c0]) rfl rfl rfl rfl H ?_
  intro g1 w1 H1
  refine WO.sbox 3 (cs := [.int .i64 now, .int .i64 order, .slice A1 l.length c1]) rfl rfl rfl rfl H1 ?_
  intro g2 w2 H2
  refine WO.v 4 rfl rfl (r_assignB rfl rfl) ?_
  refine WO.done (Run.seq (Run.seq (Run.regionL [0, 1, 2, 3, 4] rfl ?_)))
  refine WO.v 5 rfl rfl (r_fieldAddr rfl rfl Try.underlying29 rfl Try.sizeOf3 (q := 0) rfl) ?_
  refine WO.v 6 rfl rfl (r_load rfl rfl Try.isAgg3 (H2.cell p1 rfl)) ?_
  refine WO.v 7 rfl rfl (r_fieldAddr rfl rfl Try.underlying29 rfl Try.sizeOf3 (q := 0) rfl) ?_
  refine WO.v 8 rfl rfl (r_load rfl rfl Try.isAgg3 (H2.cell p0 rfl)) ?_
  refine WO.v 9 rfl rfl (r_neq rfl rfl rfl (decide_eq_false (fun h => h rfl))) ?_
  refine WO.done (Run.condF rfl (Run.skip (Run.seq (Run.seq (Run.regionL [0, 1, 2, 3, 4] rfl ?_)))))
  refine WO.v 10 rfl rfl (r_fieldAddr rfl rfl Try.underlying29 rfl Try.sizeOf3 (q := 1) rfl) ?_
  refine WO.v 11 rfl rfl (r_load rfl rfl Try.isAgg3 (H2.cell p1 rfl)) ?_
  refine WO.v 12 rfl rfl (r_fieldAddr rfl rfl Try.underlying29 rfl Try.sizeOf3 (q := 1) rfl) ?_
  refine WO.v 13 rfl rfl (r_load rfl rfl Try.isAgg3 (H2.cell p0 rfl)) ?_
  refine WO.v 14 rfl rfl (r_neq rfl rfl rfl (decide_eq_false (fun h => h rfl))) ?_
  refine WO.done (Run.condF rfl (Run.skip (Run.seq (Run.seq (Run.regionL [0, 1, 2, 3, 4, 5] rfl ?_)))))
  refine WO.v 15 rfl rfl (r_fieldAddr rfl rfl Try.underlying29 rfl Try.sizeOf27 (q := 2) rfl) ?_
  refine WO.v 16 rfl rfl (r_load rfl rfl Try.isAgg27 (H2.cell p1 rfl)) ?_
  refine WO.v 17 rfl rfl (r_fieldAddr rfl rfl Try.underlying29 rfl Try.sizeOf27 (q := 2) rfl) ?_
  refine WO.v 18 rfl rfl (r_load rfl rfl Try.isAgg27 (H2.cell p0 rfl)) ?_
  refine WO.call_ 19 rfl rfl Try.call39 (eqTimerSSS_calls A0 c0 A1 c1 l w2 (Kd.C_below hr0 H2.below) (Kd.C_below hr1 H2.below)) rfl rfl ?_
  rintro e w3 ⟨rfl, hb3⟩
  refine ⟨_, rfl, ?_⟩
  refine WO.v 20 rfl rfl (r_not rfl rfl rfl) ?_
  refine WO.done (Run.condF rfl (Run.skip (Run.seq (Run.regionL [0] rfl ?_))))
  refine WO.v 4 rfl rfl (r_assignB rfl rfl) ?_
  exact WO.done (Run.ret1 (v1 := .bool true) Try.func14 Try.results14 rfl ⟨rfl, H2.below.trans (hb3.mono H2.size)⟩)

/-- impl.WheelOK: a wheel that is right, or not. -/
theorem implOK_calls (now order : Int) (A : Option Addr) (c : Nat) (lv : List (List (List S57))) (w : World) (hr : Kd.C (Kd.slice 55 (Kd.slice 57 k57)) w A lv.length lv) (hbig : lv.flatten.flatten.length ≤ 1048576) :
    Calls Try.prog 13 #[.agg #[.int .i64 now, .int .i64 order, .slice A lv.length c]] w fun e w' => (∃ b, e = .returned (.bool b) ∧ (b = true → Good now order lv) ∧ (b = false → ¬ Good now order lv)) ∧ Below w.heap.size w w' := by
  have H := St.nil w
  refine calls_of_run (fn := Try.f13) (n := 11) Try.func13 rfl Try.ntmps13 (Nat.le_of_ble_eq_true rfl) ?_
  refine Run.seq (Run.regionL [0, 1] rfl ?_)
  refine WO.sbox 1 (cs := [.int .i64 now, .int .i64 order, .slice A lv.length c]) rfl rfl rfl rfl H ?_
  intro g1 w1 H1
  refine WO.v 2 rfl rfl (r_assignB rfl rfl) ?_
  refine WO.done (Run.seq (Run.regionL [0, 1, 2, 3, 4, 5, 6, 7] rfl ?_))
  refine WO.v 6 rfl rfl (r_loadK (vs := [.int .i64 now, .int .i64 order, .slice A lv.length c]) rfl rfl Try.isAgg29 Try.sizeOf29 rfl (H1.cells p0)) ?_
  refine WO.scall 7 rfl rfl Try.call38 H1 .n (unwind_tri sort_rw now order A c lv w1 (Kd.C_below hr H1.below) hbig) rfl rfl ?_
  rintro e LQ w2 ⟨A', c', ts, b, rfl, rfl, hb1, hb0⟩ H2
  refine ⟨_, rfl, ?_⟩
  refine WO.v 5 rfl rfl (r_moveT rfl rfl) ?_
  refine WO.v 8 rfl rfl (r_extract rfl rfl rfl) ?_
  refine WO.v 9 rfl rfl (r_extract rfl rfl rfl) ?_
  refine WO.salloc 3 (cs := [.int .i64 0, .int .i64 0, .slice none 0 0]) rfl rfl rfl Try.zeroValue69 rfl H2 ?_
  intro g3 w3 H3
  refine WO.sstoreK (vs := [.int .i64 now, .int .i64 order, .slice A' ts.length c']) rfl rfl rfl rfl rfl rfl rfl Try.sizeOf69 rfl H3 p0 rfl ?_
  intro w4 H4
  refine WO.v 4 rfl rfl (r_assignB rfl rfl) ?_
  refine WO.done (Run.seq (Run.regionL [0, 1] rfl ?_))
  refine WO.v 10 rfl rfl (r_moveB rfl rfl) ?_
  refine WO.v 2 rfl rfl (r_assignB rfl rfl) ?_
  exact WO.done (Run.ret1 (v1 := .bool b) Try.func13 Try.results13 rfl ⟨⟨b, rfl, fun h => (hb1 h).1, hb0⟩, H4.below⟩)
end Go.Proofs.Ytojpimpfpjhflaa.Wh
namespace Go.Proofs.Ytojpimpfpjhflaa.Wh
open Go.RowKit Go.Proofs.Ytojpimpfpjhflaa.Fw Go.Proofs.YtojpimpfpjhflaaW.PrintWords Go.Proofs.Ytojpimpfpjhflaa.PFnExactWheelOK
set_option linter.unusedVariables false
set_option linter.unusedSimpArgs false

theorem in_f (a b c : Int) : spec_l01In.f a b c = some (decide (b ≤ a ∧ a ≤ c)) := by
  unfold spec_l01In.f
  by_cases h : a ≥ b
  · rw [if_pos h]
    congr 1
    exact decide_eq_decide.2 ⟨fun h2 => ⟨h, h2⟩, fun h2 => h2.2⟩
  · rw [if_neg h]
    congr 1
    exact (decide_eq_false (fun h2 => h h2.1)).symm
theorem tdiv_w {a b : Int} (h0 : 0 ≤ a) (h1 : a ≤ 2000000) (hb : 0 < b) : wrap64 (Int.tdiv a b) = a / b := by
  rw [Int.tdiv_eq_ediv_of_nonneg h0]
  have h2 : 0 ≤ a / b := Int.ediv_nonneg h0 (by omega)
  have h3 : a / b ≤ a := Int.ediv_le_self b h0
  exact wrap64_in (by omega) (by omega)
theorem where_f (now at_ : Int) (h0 : 0 ≤ now) (h1 : now ≤ 1000000) (h2 : 0 ≤ at_) (h3 : at_ ≤ 1000500) : Evt (fun k => spec_l11Where.f k now at_) (placeP at_ now) := by
  have e8 : wrap64 ((1 : Int) * 8) = 8 := by unfold wrap64; omega
  have e64 : wrap64 ((8 : Int) * 8) = 64 := by unfold wrap64; omega
  have e01 : wrap64 ((0 : Int) + 1) = 1 := by unfold wrap64; omega
  have e12 : wrap64 ((1 : Int) + 1) = 2 := by unfold wrap64; omega
  have a8 : (0 : Int) ≤ at_ / 8 := Int.ediv_nonneg h2 (by omega)
  have a64 : (0 : Int) ≤ at_ / 64 := Int.ediv_nonneg h2 (by omega)
  unfold spec_l11Where.f placeP
  by_cases c1 : at_ / 8 = now / 8
  · rw [if_pos c1]
    refine Evt.succ (h := fun _ => some (0, at_ % 8)) (fun k => ?_) (.const _)
    rw [spec_l11Where.l0, if_pos (by decide), e8, if_neg (by decide), tdiv_w h2 (by omega) (by decide), tdiv_w h0 (by omega) (by decide), if_pos c1, if_neg (by decide), tdiv_w h2 (by omega) (by decide), Int.ediv_one, Int.tmod_eq_emod_of_nonneg h2]
  · rw [if_neg c1]
    refine Evt.succ (h := fun k => spec_l11Where.l0 k now at_ 8 1) (fun k => ?_) ?_
    · rw [spec_l11Where.l0, if_pos (by decide), e8, if_neg (by decide), tdiv_w h2 (by omega) (by decide), tdiv_w h0 (by omega) (by decide), if_neg c1, e01]
    by_cases c2 : at_ / 64 = now / 64
    · rw [if_pos c2]
      refine Evt.succ (h := fun _ => some (1, at_ / 8 % 8)) (fun k => ?_) (.const _)
      rw [spec_l11Where.l0, if_pos (by decide), e64, if_neg (by decide), tdiv_w h2 (by omega) (by decide), tdiv_w h0 (by omega) (by decide), if_pos c2, if_neg (by decide), tdiv_w h2 (by omega) (by decide), Int.tmod_eq_emod_of_nonneg a8]
    · rw [if_neg c2]
      refine Evt.succ (h := fun k => spec_l11Where.l0 k now at_ 64 2) (fun k => ?_) ?_
      · rw [spec_l11Where.l0, if_pos (by decide), e64, if_neg (by decide), tdiv_w h2 (by omega) (by decide), tdiv_w h0 (by omega) (by decide), if_neg c2, e12]
      refine Evt.succ (h := fun _ => some (2, at_ / 64 % 8)) (fun k => ?_) (.const _)
      rw [spec_l11Where.l0, if_neg (by decide), if_neg (by decide), tdiv_w h2 (by omega) (by decide), Int.tmod_eq_emod_of_nonneg a64]
/-- A timer of one number, or one order, among some. -/
def twinB (seen : List S57) (x : S57) : Bool := seen.any fun y => decide (y.f0 = x.f0) || decide (y.f2 = x.f2)
theorem twin_f (seen : List S57) (x : S57) (hs : seen.length ≤ 1048576) : Evt (fun k => spec_l11Twin.f k seen x.f0 x.f1 x.f2) (twinB seen x) := by
  have key : ∀ d i : Nat, i + d = seen.length → Evt (fun k => spec_l11Twin.l0 k seen i x.f0 x.f1 x.f2) (twinB (seen.drop i) x) := by
    intro d
    induction d with
    | zero =>
      intro i hi
      refine Evt.succ (h := fun _ => some (twinB (seen.drop i) x)) (fun k => ?_) (.const _)
      rw [spec_l11Twin.l0, if_neg (by omega), List.drop_eq_nil_of_le (by omega)]
      rfl
    | succ d ih =>
      intro i hi
      have hd := drop_getD seen i z57 (by omega)
      have hr : rd_T57 seen (i : Int) = seen.getD i z57 := by unfold rd_T57; rw [Int.toNat_natCast]
      by_cases c0 : (seen.getD i z57).f0 = x.f0
      · refine Evt.succ (h := fun _ => some true) (fun k => ?_) ?_
        · rw [spec_l11Twin.l0, if_pos (by omega), if_pos (by omega), hr, if_pos c0]
        · rw [hd, twinB, List.any_cons, decide_eq_true c0]
          exact .const _
      · by_cases c2 : (seen.getD i z57).f2 = x.f2
        · refine Evt.succ (h := fun _ => some true) (fun k => ?_) ?_
          · rw [spec_l11Twin.l0, if_pos (by omega), if_pos (by omega), hr, if_neg c0, if_pos c2]
          · rw [hd, twinB, List.any_cons, decide_eq_true c2, Bool.or_true]
            exact .const _
        · refine Evt.succ (h := fun k => spec_l11Twin.l0 k seen ((i + 1 : Nat) : Int) x.f0 x.f1 x.f2) (fun k => ?_) ?_
          · rw [spec_l11Twin.l0, if_pos (by omega), if_pos (by omega), hr, if_neg c0, if_neg c2, wrap64_in (by omega) (by omega)]
            rfl
          · have := ih (i + 1) (by omega)
            rw [hd, twinB, List.any_cons, decide_eq_false c0, decide_eq_false c2, Bool.or_false, Bool.false_or]
            exact this
  exact key seen.length 0 (by omega)
/-- None of xs is a twin of one that stands ahead of it. -/
def chk : List S57 → List S57 → Bool
  | _, [] => true
  | seen, x :: xs => !twinB seen x && chk (seen ++ [x]) xs
theorem chk_app : ∀ (seen a b : List S57), chk seen (a ++ b) = (chk seen a && chk (seen ++ a) b)
  | seen, [], b => by simp [chk]
  | seen, x :: a, b => by simp only [List.cons_append, chk, chk_app (seen ++ [x]) a b, List.append_assoc, List.singleton_append, List.nil_append, Bool.and_assoc]
theorem twinB_iff (seen : List S57) (x : S57) : twinB seen x = false ↔ x.f0 ∉ seen.map (·.f0) ∧ x.f2 ∉ seen.map (·.f2) := by
  simp only [twinB, List.any_eq_false, Bool.or_eq_true, decide_eq_true_eq, not_or, List.mem_map, not_exists, not_and]
  exact ⟨fun h => ⟨fun y hy => (h y hy).1, fun y hy => (h y hy).2⟩, fun h y hy => ⟨h.1 y hy, h.2 y hy⟩⟩
theorem chk_iff : ∀ (seen xs : List S57), (seen.map (·.f0)).Nodup → (seen.map (·.f2)).Nodup → (chk seen xs = true ↔ ((seen ++ xs).map (·.f0)).Nodup ∧ ((seen ++ xs).map (·.f2)).Nodup)
  | seen, [], h1, h2 => by simp [chk, h1, h2]
  | seen, x :: xs, h1, h2 => by
    have e : seen ++ x :: xs = (seen ++ [x]) ++ xs := by simp
    rw [e]
    simp only [chk, Bool.and_eq_true, Bool.not_eq_true']
    by_cases ht : twinB seen x = false
    · obtain ⟨t1, t2⟩ := (twinB_iff seen x).1 ht
      have n1 : ((seen ++ [x]).map (·.f0)).Nodup := by
        rw [List.map_append, List.nodup_append]
        exact ⟨h1, by simp, fun a ha b hb => by simp at hb; subst hb; exact fun e => t1 (e ▸ ha)⟩
      have n2 : ((seen ++ [x]).map (·.f2)).Nodup := by
        rw [List.map_append, List.nodup_append]
        exact ⟨h2, by simp, fun a ha b hb => by simp at hb; subst hb; exact fun e => t2 (e ▸ ha)⟩
      rw [← chk_iff (seen ++ [x]) xs n1 n2]
      simp [ht]
    · constructor
      · rintro ⟨h, _⟩; exact absurd h ht
      · rintro ⟨a, b⟩
        refine absurd ((twinB_iff seen x).2 ⟨fun hm => ?_, fun hm => ?_⟩) ht
        · rw [List.map_append, List.map_append, List.nodup_append, List.nodup_append] at a
          exact a.1.2.2 _ hm _ (by simp) rfl
        · rw [List.map_append, List.map_append, List.nodup_append, List.nodup_append] at b
          exact b.1.2.2 _ hm _ (by simp) rfl

section
variable (now order : Int) (lv : List (List (List S57)))
variable (hn0 : 0 ≤ now) (hn1 : now ≤ 1000000)
theorem rd5 (xs : List (List S57)) (i : Nat) : rd_L5 xs (i : Int) = xs.getD i [] := by unfold rd_L5; rw [Int.toNat_natCast]
theorem rd6 (xs : List (List (List S57))) (i : Nat) : rd_L6 xs (i : Int) = xs.getD i [] := by unfold rd_L6; rw [Int.toNat_natCast]
theorem rdT (xs : List S57) (i : Nat) : rd_T57 xs (i : Int) = xs.getD i z57 := by unfold rd_T57; rw [Int.toNat_natCast]
include hn0 hn1 in
theorem l2_spec (l s : Nat) (list : List S57) (hl : list.length ≤ 1048576) : ∀ d i : Nat, i + d = list.length → ∀ (seen : List S57) (p : Int), seen.length + d ≤ 1048576 → 0 ≤ p → (i = 0 → p = 0) → (0 < i → p = (list.getD (i - 1) z57).f2) →
    ((slotB now order l s p (list.drop i) = true ∧ chk seen (list.drop i) = true) → ∀ r, Evt (fun k => spec_WheelOK.l1 k (seen ++ list.drop i) l ((s : Int) + 1) now order lv) r → s < 8 → Evt (fun k => spec_WheelOK.l2 k seen l s list i now order lv) r) ∧
    (¬ (slotB now order l s p (list.drop i) = true ∧ chk seen (list.drop i) = true) → Evt (fun k => spec_WheelOK.l2 k seen l s list i now order lv) false) := by
  intro d
  induction d with
  | zero =>
    intro i hi seen p hse hp hp0 hp1
    rw [List.drop_eq_nil_of_le (by omega)]
    refine ⟨fun _ r hr hs => Evt.succ (h := fun k => spec_WheelOK.l1 k (seen ++ []) l ((s : Int) + 1) now order lv) (fun k => ?_) hr, fun h => absurd ⟨rfl, rfl⟩ h⟩
    rw [spec_WheelOK.l2, if_neg (by omega), List.append_nil, wrap64_in (by omega) (by omega)]
  | succ d ih =>
    intro i hi seen p hse hp hp0 hp1
    have hd := drop_getD list i z57 (by omega)
    generalize hx : list.getD i z57 = x at hd
    have hrx : rd_T57 list (i : Int) = x := by rw [rdT, hx]
    -- the timer by itself
    have hbad : ∀ K : Prop, True := fun _ => trivial
    have j4T : Evt (fun k => spec_WheelOK.j4 k seen l s list i true now order lv x.f0 x.f1 x.f2) false := Evt.succ (h := fun _ => some false) (fun k => by rw [spec_WheelOK.j4, if_pos rfl]) (.const _)
    by_cases c1 : now + 1 ≤ x.f1 ∧ x.f1 ≤ now + 500
    · by_cases c2 : 1 ≤ x.f2 ∧ x.f2 ≤ order
      · -- the last test of j4's
        have step : Evt (fun k => spec_WheelOK.l2 k seen l s list i now order lv) = Evt (fun k => spec_WheelOK.l2 k seen l s list i now order lv) := rfl
        have hcond : ∃ bad : Bool, (bad = true ↔ ¬ (p + 1 ≤ x.f2)) ∧ ∀ k, spec_WheelOK.l2 (k + 1) seen l s list i now order lv = spec_WheelOK.j4 k seen l s list i bad now order lv x.f0 x.f1 x.f2 := by
          by_cases h0 : 0 < i
          · refine ⟨decide ((list.getD (i - 1) z57).f2 ≥ x.f2), ?_, fun k => ?_⟩
            · rw [← hp1 h0]
              simp only [decide_eq_true_eq]
              omega
            · rw [spec_WheelOK.l2, if_pos (by omega), if_pos (by omega), hrx, in_f, Option.bind_some, wrap64_in (a := now + 1) (by omega) (by omega), wrap64_in (a := now + 500) (by omega) (by omega), decide_eq_true c1, if_pos rfl, in_f, Option.bind_some, decide_eq_true c2, if_pos rfl, if_pos (by omega),
                wrap64_in (a := (i : Int) - 1) (by omega) (by omega), if_pos (by omega), if_pos (by omega), show ((i : Int) - 1) = ((i - 1 : Nat) : Int) by omega, rdT]
          · refine ⟨false, ?_, fun k => ?_⟩
            · rw [hp0 (by omega)]
              exact ⟨fun h => Bool.noConfusion h, fun h => absurd (by omega) h⟩
            · rw [spec_WheelOK.l2, if_pos (by omega), if_pos (by omega), hrx, in_f, Option.bind_some, wrap64_in (a := now + 1) (by omega) (by omega), wrap64_in (a := now + 500) (by omega) (by omega), decide_eq_true c1, if_pos rfl, in_f, Option.bind_some, decide_eq_true c2, if_pos rfl, if_neg (by omega)]
        obtain ⟨bad, hb, hst⟩ := hcond
        by_cases c3 : p + 1 ≤ x.f2
        · have hbf : bad = false := by
            cases bad with
            | false => rfl
            | true => exact absurd c3 (hb.1 rfl)
          subst hbf
          have hw := where_f now x.f1 hn0 hn1 (by omega) (by omega)
          have ht := twin_f seen x (by omega)
          by_cases c4 : (placeP x.f1 now).1 = l ∧ (placeP x.f1 now).2 = s
          · cases c5 : twinB seen x with
            | true =>
              refine ⟨fun h => ?_, fun _ => ?_⟩
              · rw [hd] at h
                simp [chk, c5] at h
              · refine Evt.succ hst (Evt.succ (h := fun k => (spec_l11Where.f k now x.f1).bind fun bt124 => (if bt124.1 = (l : Int) then (if bt124.2 = (s : Int) then ((spec_l11Twin.f k seen x.f0 x.f1 x.f2).bind fun t126 => (if t126 = true then (some false) else (if seen.length < 5864062014805 then (spec_WheelOK.l2 k (seen ++ [(⟨x.f0, x.f1, x.f2⟩ : S57)]) l s list (wrap64 ((i : Int) + 1)) now order lv) else (none)))) else (some false)) else (some false))) (fun k => by rw [spec_WheelOK.j4, if_neg (by decide)]) (Evt.bind hw ?_))
                refine Evt.congr (fun k => by rw [if_pos c4.1, if_pos c4.2]) (Evt.bind (g := fun k t126 => (if t126 = true then (some false) else (if seen.length < 5864062014805 then (spec_WheelOK.l2 k (seen ++ [(⟨x.f0, x.f1, x.f2⟩ : S57)]) l s list (wrap64 ((i : Int) + 1)) now order lv) else (none)))) (c5 ▸ ht) ?_)
                exact .now fun k => rfl
            | false =>
              obtain ⟨ih1, ih2⟩ := ih (i + 1) (by omega) (seen ++ [x]) x.f2 (by simp; omega) (by omega) (by omega) (fun _ => by rw [Nat.add_sub_cancel, hx])
              have hs1 : slotB now order l s p (list.drop i) = slotB now order l s x.f2 (list.drop (i + 1)) := by
                rw [hd]
                simp only [slotB]
                rw [if_pos ⟨c1, ⟨c3, c2.2⟩, c4.1, c4.2⟩]
              have hc1 : chk seen (list.drop i) = chk (seen ++ [x]) (list.drop (i + 1)) := by rw [hd]; simp [chk, c5]
              have go : ∀ r, Evt (fun k => spec_WheelOK.l2 k (seen ++ [x]) l s list ((i + 1 : Nat) : Int) now order lv) r → Evt (fun k => spec_WheelOK.l2 k seen l s list i now order lv) r := fun r hr => by
                refine Evt.succ hst (Evt.succ (h := fun k => (spec_l11Where.f k now x.f1).bind fun bt124 => (if bt124.1 = (l : Int) then (if bt124.2 = (s : Int) then ((spec_l11Twin.f k seen x.f0 x.f1 x.f2).bind fun t126 => (if t126 = true then (some false) else (if seen.length < 5864062014805 then (spec_WheelOK.l2 k (seen ++ [(⟨x.f0, x.f1, x.f2⟩ : S57)]) l s list (wrap64 ((i : Int) + 1)) now order lv) else (none)))) else (some false)) else (some false))) (fun k => by rw [spec_WheelOK.j4, if_neg (by decide)]) (Evt.bind hw ?_))
                refine Evt.congr (fun k => by rw [if_pos c4.1, if_pos c4.2]) (Evt.bind (g := fun k t126 => (if t126 = true then (some false) else (if seen.length < 5864062014805 then (spec_WheelOK.l2 k (seen ++ [(⟨x.f0, x.f1, x.f2⟩ : S57)]) l s list (wrap64 ((i : Int) + 1)) now order lv) else (none)))) (c5 ▸ ht) ?_)
                refine Evt.congr (fun k => ?_) hr
                rw [if_neg (by decide), if_pos (by omega), wrap64_in (by omega) (by omega)]
                rfl
              rw [hs1, hc1]
              refine ⟨fun h r hr hs => go r (ih1 h r ?_ hs), fun h => go false (ih2 h)⟩
              rw [hd] at hr
              simpa using hr
          · refine ⟨fun h => ?_, fun _ => ?_⟩
            · rw [hd] at h
              simp only [slotB] at h
              rw [if_neg (fun h => c4 h.2.2)] at h
              exact absurd h.1 (by decide)
            · refine Evt.succ hst (Evt.succ (h := fun k => (spec_l11Where.f k now x.f1).bind fun bt124 => (if bt124.1 = (l : Int) then (if bt124.2 = (s : Int) then ((spec_l11Twin.f k seen x.f0 x.f1 x.f2).bind fun t126 => (if t126 = true then (some false) else (if seen.length < 5864062014805 then (spec_WheelOK.l2 k (seen ++ [(⟨x.f0, x.f1, x.f2⟩ : S57)]) l s list (wrap64 ((i : Int) + 1)) now order lv) else (none)))) else (some false)) else (some false))) (fun k => by rw [spec_WheelOK.j4, if_neg (by decide)]) (Evt.bind hw ?_))
              refine .now fun k => ?_
              by_cases c6 : (placeP x.f1 now).1 = (l : Int)
              · rw [if_pos c6, if_neg (fun h => c4 ⟨c6, h⟩)]
              · rw [if_neg c6]
        · have hbt : bad = true := hb.2 c3
          subst hbt
          refine ⟨fun h => ?_, fun _ => Evt.succ hst j4T⟩
          rw [hd] at h
          simp only [slotB] at h
          rw [if_neg (fun h => c3 h.2.1.1)] at h
          exact absurd h.1 (by decide)
      · refine ⟨fun h => ?_, fun _ => Evt.succ (fun k => ?_) j4T⟩
        · rw [hd] at h
          simp only [slotB] at h
          rw [if_neg (fun h => c2 ⟨by omega, h.2.1.2⟩)] at h
          exact absurd h.1 (by decide)
        · rw [spec_WheelOK.l2, if_pos (by omega), if_pos (by omega), hrx, in_f, Option.bind_some, wrap64_in (a := now + 1) (by omega) (by omega), wrap64_in (a := now + 500) (by omega) (by omega), decide_eq_true c1, if_pos rfl, in_f, Option.bind_some, decide_eq_false c2, if_neg (by decide)]
    · refine ⟨fun h => ?_, fun _ => Evt.succ (fun k => ?_) j4T⟩
      · rw [hd] at h
        simp only [slotB] at h
        rw [if_neg (fun h => c1 h.1)] at h
        exact absurd h.1 (by decide)
      · rw [spec_WheelOK.l2, if_pos (by omega), if_pos (by omega), hrx, in_f, Option.bind_some, wrap64_in (a := now + 1) (by omega) (by omega), wrap64_in (a := now + 500) (by omega) (by omega), decide_eq_false c1, if_neg (by decide)]
include hn0 hn1 in
theorem l1_spec (l : Nat) (X : List (List S57)) (hX : lv.getD l [] = X) (hl : l < 3) (hl3 : lv.length = 3) (h8 : X.length = 8) (hbig : ∀ s, s < 8 → (X.getD s []).length ≤ 1048576) : ∀ d s : Nat, s + d = 8 → ∀ seen : List S57, seen.length + (X.drop s).flatten.length ≤ 1048576 →
    (((∀ s' : Nat, s ≤ s' → s' < 8 → slotB now order l s' 0 (X.getD s' []) = true) ∧ chk seen (X.drop s).flatten = true) → ∀ r, Evt (fun k => spec_WheelOK.l0 k (seen ++ (X.drop s).flatten) ((l : Int) + 1) now order lv) r → Evt (fun k => spec_WheelOK.l1 k seen l s now order lv) r) ∧
    (¬ ((∀ s' : Nat, s ≤ s' → s' < 8 → slotB now order l s' 0 (X.getD s' []) = true) ∧ chk seen (X.drop s).flatten = true) → Evt (fun k => spec_WheelOK.l1 k seen l s now order lv) false) := by
  intro d
  induction d with
  | zero =>
    intro s hs seen hse
    rw [List.drop_eq_nil_of_le (by omega)]
    refine ⟨fun _ r hr => Evt.succ (h := fun k => spec_WheelOK.l0 k (seen ++ [].flatten) ((l : Int) + 1) now order lv) (fun k => ?_) hr, fun h => absurd ⟨fun s' h1 h2 => by omega, rfl⟩ h⟩
    rw [spec_WheelOK.l1, if_neg (by omega), wrap64_in (by omega) (by omega)]
    simp
  | succ d ih =>
    intro s hs seen hse
    have hd := drop_getD X s [] (by omega)
    have hfl : (X.drop s).flatten = X.getD s [] ++ (X.drop (s + 1)).flatten := by rw [hd, List.flatten_cons]
    rw [hfl, List.length_append] at hse
    obtain ⟨i1, i2⟩ := ih (s + 1) (by omega) (seen ++ X.getD s []) (by rw [List.length_append]; omega)
    obtain ⟨j1, j2⟩ := l2_spec now order lv hn0 hn1 l s (X.getD s []) (hbig s (by omega)) (X.getD s []).length 0 (by omega) seen 0 (by omega) (by omega) (fun _ => rfl) (fun h => absurd h (Nat.lt_irrefl 0))
    rw [List.drop_zero] at j1 j2
    have st : ∀ k, spec_WheelOK.l1 (k + 1) seen l s now order lv = spec_WheelOK.l2 k seen l s (X.getD s []) ((0 : Nat) : Int) now order lv := fun k => by
      rw [spec_WheelOK.l1, if_pos (by omega), if_pos (by omega), if_pos (by omega), if_pos (by omega), rd6, hX, if_pos (by omega), rd5]
      rfl
    rw [hfl, chk_app]
    by_cases c : slotB now order l s 0 (X.getD s []) = true ∧ chk seen (X.getD s []) = true
    · have fwd : ∀ r, Evt (fun k => spec_WheelOK.l1 k (seen ++ X.getD s []) l ((s + 1 : Nat) : Int) now order lv) r → Evt (fun k => spec_WheelOK.l1 k seen l s now order lv) r := fun r hr => Evt.succ st (j1 c r (by simpa using hr) (by omega))
      refine ⟨fun h r hr => fwd r (i1 ⟨fun s' a b => h.1 s' (by omega) b, ?_⟩ r (by simpa using hr)), fun h => fwd false (i2 fun h2 => h ⟨fun s' a b => ?_, ?_⟩)⟩
      · have := h.2
        rw [Bool.and_eq_true] at this
        exact this.2
      · by_cases e : s' = s
        · rw [e]; exact c.1
        · exact h2.1 s' (by omega) b
      · rw [c.2, h2.2]; rfl
    · refine ⟨fun h => absurd ⟨h.1 s (Nat.le_refl _) (by omega), ?_⟩ c, fun _ => Evt.succ st (j2 c)⟩
      have := h.2
      rw [Bool.and_eq_true] at this
      exact this.1
def RestOK (seen : List S57) (l : Nat) : Prop := (∀ l', l ≤ l' → l' < 3 → levelB now order l' (lv.getD l' [])) ∧ chk seen (lv.drop l).flatten.flatten = true ∧ (seen ++ (lv.drop l).flatten.flatten).length ≤ 60
theorem mem_len (l s : Nat) : ((lv.getD l []).getD s []).length ≤ lv.flatten.flatten.length := by
  by_cases hl : l < lv.length
  · by_cases hs : s < (lv.getD l []).length
    · have h1 := take_flat lv l hl
      have h2 := take_flat (lv.getD l []) s hs
      have h3 : (lv.take (l + 1)).flatten.flatten.length ≤ lv.flatten.flatten.length := by
        conv => rhs; rw [← List.take_append_drop (l + 1) lv, List.flatten_append, List.flatten_append, List.length_append]
        omega
      have h4 := flat_le (lv.getD l []) (s + 1)
      rw [h2, List.length_append] at h4
      rw [h1, List.flatten_append, List.length_append] at h3
      omega
    · rw [List.getD_eq_getElem?_getD, List.getElem?_eq_none (by omega)]; simp
  · rw [show lv.getD l [] = [] by rw [List.getD_eq_getElem?_getD, List.getElem?_eq_none (by omega)]; rfl]; simp
include hn0 hn1 in
theorem l0_spec (hl3 : lv.length = 3) (hbig : lv.flatten.flatten.length ≤ 1048576) : ∀ d l : Nat, l + d = 3 → ∀ seen : List S57, seen.length + (lv.drop l).flatten.flatten.length ≤ 1048576 →
    (RestOK now order lv seen l → Evt (fun k => spec_WheelOK.l0 k seen l now order lv) true) ∧ (¬ RestOK now order lv seen l → Evt (fun k => spec_WheelOK.l0 k seen l now order lv) false) := by
  intro d
  induction d with
  | zero =>
    intro l hl seen hse
    have e : lv.drop l = [] := List.drop_eq_nil_of_le (by omega)
    have st : Evt (fun k => spec_WheelOK.l0 k seen l now order lv) (decide ((seen.length : Int) ≤ 60)) := Evt.succ (h := fun _ => some (decide ((seen.length : Int) ≤ 60))) (fun k => by rw [spec_WheelOK.l0, if_neg (by omega)]) (.const _)
    unfold RestOK
    rw [e]
    refine ⟨fun h => ?_, fun h => ?_⟩
    · have := h.2.2
      rw [decide_eq_true (show (seen.length : Int) ≤ 60 by simp at this; omega)] at st
      exact st
    · rw [decide_eq_false (fun h2 => h ⟨fun l' a b => by omega, rfl, by simp; omega⟩)] at st
      exact st
  | succ d ih =>
    intro l hl seen hse
    have hd := drop_getD lv l [] (by omega)
    have hfl : (lv.drop l).flatten.flatten = (lv.getD l []).flatten ++ (lv.drop (l + 1)).flatten.flatten := by rw [hd, List.flatten_cons, List.flatten_append]
    rw [hfl, List.length_append] at hse
    by_cases h8 : (lv.getD l []).length = 8
    · obtain ⟨i1, i2⟩ := ih (l + 1) (by omega) (seen ++ (lv.getD l []).flatten) (by rw [List.length_append]; omega)
      obtain ⟨j1, j2⟩ := l1_spec now order lv hn0 hn1 l (lv.getD l []) rfl (by omega) hl3 h8 (fun s _ => Nat.le_trans (mem_len lv l s) hbig) 8 0 (by omega) seen (by rw [List.drop_zero]; omega)
      rw [List.drop_zero] at j1 j2
      have st : ∀ k, spec_WheelOK.l0 (k + 1) seen l now order lv = spec_WheelOK.l1 k seen l ((0 : Nat) : Int) now order lv := fun k => by
        rw [spec_WheelOK.l0, if_pos (by omega), if_pos (by omega), if_pos (by omega), rd6, if_pos (by omega)]
        rfl
      by_cases c : (∀ s' : Nat, 0 ≤ s' → s' < 8 → slotB now order l s' 0 ((lv.getD l []).getD s' []) = true) ∧ chk seen (lv.getD l []).flatten = true
      · have hR : RestOK now order lv seen l ↔ RestOK now order lv (seen ++ (lv.getD l []).flatten) (l + 1) := by
          unfold RestOK
          rw [hfl, chk_app, c.2, Bool.true_and, List.append_assoc]
          refine ⟨fun h => ⟨fun l' a b => h.1 l' (by omega) b, h.2⟩, fun h => ⟨fun l' a b => ?_, h.2⟩⟩
          by_cases e : l' = l
          · rw [e]; exact ⟨h8, fun s hs => c.1 s (Nat.zero_le _) hs⟩
          · exact h.1 l' (by omega) b
        rw [hR]
        exact ⟨fun h => Evt.succ st (j1 c true (i1 h)), fun h => Evt.succ st (j1 c false (i2 h))⟩
      · refine ⟨fun h => absurd ⟨fun s' _ hs => (h.1 l (Nat.le_refl _) (by omega)).2 s' hs, ?_⟩ c, fun _ => Evt.succ st (j2 c)⟩
        have := h.2.1
        rw [hfl, chk_app, Bool.and_eq_true] at this
        exact this.1
    · refine ⟨fun h => absurd (h.1 l (Nat.le_refl _) (by omega)).1 h8, fun _ => Evt.succ (h := fun _ => some false) (fun k => ?_) (.const _)⟩
      rw [spec_WheelOK.l0, if_pos (by omega), if_pos (by omega), if_pos (by omega), rd6, if_neg (by omega)]
end
/-- The reference's WheelOK: a wheel that is right, or not. -/
theorem spec_ok (now order : Int) (lv : List (List (List S57))) (hbig : lv.flatten.flatten.length ≤ 1048576) : ∃ b, Evt (fun k => spec_WheelOK.f k now order lv) b ∧ (b = true → Good now order lv) ∧ (b = false → ¬ Good now order lv) := by
  have jT : Evt (fun k => spec_WheelOK.j0 k true now order lv) false := Evt.succ (h := fun _ => some false) (fun k => by rw [spec_WheelOK.j0, if_pos rfl]) (.const _)
  by_cases hn : 0 ≤ now ∧ now ≤ 1000000
  · by_cases ho : 0 ≤ order ∧ order ≤ 1000000
    · have st : ∀ k, spec_WheelOK.f k now order lv = spec_WheelOK.j0 k ((lv.length : Int) != 3) now order lv := fun k => by
        unfold spec_WheelOK.f
        rw [in_f, in_f, decide_eq_true hn, decide_eq_true ho]
        rfl
      by_cases h3 : lv.length = 3
      · obtain ⟨a, b⟩ := l0_spec now order lv hn.1 hn.2 h3 hbig 3 0 rfl [] (by simpa using hbig)
        have st2 : ∀ k, spec_WheelOK.j0 (k + 1) ((lv.length : Int) != 3) now order lv = spec_WheelOK.l0 k [] ((0 : Nat) : Int) now order lv := fun k => by
          rw [spec_WheelOK.j0, if_neg (by simp [h3])]
          rfl
        have hG : RestOK now order lv [] 0 ↔ Good now order lv := by
          unfold RestOK
          rw [List.drop_zero, chk_iff [] _ (by simp) (by simp), List.nil_append]
          exact ⟨fun h => ⟨hn.1, hn.2, ho.1, ho.2, h3, fun l hl => h.1 l (Nat.zero_le _) hl, h.2.2, h.2.1.1, h.2.1.2⟩, fun h => ⟨fun l _ hl => h.level l hl, ⟨h.ids, h.orders⟩, h.few⟩⟩
        by_cases hr : RestOK now order lv [] 0
        · exact ⟨true, Evt.congr st (Evt.succ st2 (a hr)), fun _ => hG.1 hr, fun h => Bool.noConfusion h⟩
        · exact ⟨false, Evt.congr st (Evt.succ st2 (b hr)), fun h => Bool.noConfusion h, fun _ h => hr (hG.2 h)⟩
      · refine ⟨false, Evt.congr st ?_, fun h => Bool.noConfusion h, fun _ h => h3 h.three⟩
        have e : ((lv.length : Int) != 3) = true := by simp; omega
        rw [e]
        exact jT
    · refine ⟨false, Evt.congr (fun k => ?_) jT, fun h => Bool.noConfusion h, fun _ h => ho ⟨h.o0, h.o1⟩⟩
      unfold spec_WheelOK.f
      rw [in_f, in_f, decide_eq_true hn, decide_eq_false ho]
      rfl
  · refine ⟨false, Evt.congr (fun k => ?_) jT, fun h => Bool.noConfusion h, fun _ h => hn ⟨h.n0, h.n1⟩⟩
    unfold spec_WheelOK.f
    rw [in_f, decide_eq_false hn]
    rfl
theorem specOK_calls (now order : Int) (A : Option Addr) (c : Nat) (lv : List (List (List S57))) (w : World) (hr : Kd.C (Kd.slice 55 (Kd.slice 57 k57)) w A lv.length lv) (hc : lv.length ≤ c) (hbig : lv.flatten.flatten.length ≤ 1048576) :
    Calls Try.prog 11 #[.agg #[.int .i64 now, .int .i64 order, .slice A lv.length c]] w fun e w' => (∃ b, e = .returned (.bool b) ∧ (b = true → Good now order lv) ∧ (b = false → ¬ Good now order lv)) ∧ Below w.heap.size w w' := by
  obtain ⟨b, he, h1, h0⟩ := spec_ok now order lv hbig
  obtain ⟨k, hk⟩ := he.ex
  exact (spec_WheelOK.calls k now order A c lv b w hr hc hk).mono fun e w' h => ⟨⟨b, h.1, h1, h0⟩, h.2⟩
end Go.Proofs.Ytojpimpfpjhflaa.Wh
namespace Go.Proofs.Ytojpimpfpjhflaa.Wh
open Go.RowKit Go.Proofs.Ytojpimpfpjhflaa.Fw Go.Proofs.YtojpimpfpjhflaaW.PrintWords Go.Proofs.Ytojpimpfpjhflaa.PFnExactWheelOK
set_option linter.unusedVariables false
set_option linter.unusedSimpArgs false

/-! ### szWheel: what is left of the bound -/
theorem wrap64_small (left : Int) (n : Nat) (h0 : 0 ≤ left) (h1 : left ≤ 1048576) (hn : (n : Int) ≤ 9223372036854775807) : wrap64 (left - n) = left - n := wrap64_in (by omega) (by omega)
theorem szS_f (l : List S111) (hl : (l.length : Int) ≤ 9223372036854775807) (left : Int) (h0 : 0 ≤ left) (h1 : left ≤ 1048576) : ∃ r, Evt (fun _ => laws_szTimerS.f l left) r ∧ (0 ≤ r → r + szS l = left) := by
  have hz : ∀ l : List S111, sumOf (fun _ => 0) l = 0 := fun l => by
    induction l with
    | nil => rfl
    | cons x xs ih => simp [sumOf, ih]
  by_cases h : left - l.length < 0
  · refine ⟨-1, .now fun _ => ?_, fun h => by omega⟩
    unfold laws_szTimerS.f
    rw [wrap64_small left _ h0 h1 hl, if_pos h]
  · refine ⟨left - l.length, .now fun _ => ?_, fun _ => by simp only [szS, hz]; omega⟩
    unfold laws_szTimerS.f
    rw [wrap64_small left _ h0 h1 hl, if_neg h]
/-- Lengths as they are in memory. -/
def LenS (l : List S111) : Prop := (l.length : Int) ≤ 9223372036854775807
def LenSS (l : List (List S111)) : Prop := (l.length : Int) ≤ 9223372036854775807 ∧ ∀ x ∈ l, LenS x
def LenSSS (l : List (List (List S111))) : Prop := (l.length : Int) ≤ 9223372036854775807 ∧ ∀ x ∈ l, LenSS x
theorem mem_of_C {α : Type} {d : Kd α} {w : World} {A : Option Addr} {n : Nat} {xs : List α} (h : d.C w A n xs) : ∀ x ∈ xs, ∃ cs, d.K w x cs := by
  intro x hx
  obtain ⟨j, hj, rfl⟩ := List.getElem_of_mem hx
  obtain ⟨ad, _, hc⟩ := h.2.2 (by have := h.1; omega)
  obtain ⟨c, _, hk, _⟩ := hc j _ (List.getElem?_eq_getElem hj)
  exact ⟨c, hk⟩
theorem lenS_of {w : World} {A : Option Addr} {n : Nat} {l : List S111} (h : Kd.C k111 w A n l) : LenS l := by
  have := h.1
  have := h.2.1
  unfold LenS
  omega
theorem lenSS_of {w : World} {A : Option Addr} {n : Nat} {l : List (List S111)} (h : Kd.C (Kd.slice 111 k111) w A n l) : LenSS l := by
  refine ⟨by have := h.1; have := h.2.1; omega, fun x hx => ?_⟩
  obtain ⟨cs, A', c, _, _, hr⟩ := mem_of_C h x hx
  exact lenS_of hr
theorem lenSSS_of {w : World} {A : Option Addr} {n : Nat} {l : List (List (List S111))} (h : Kd.C (Kd.slice 100 (Kd.slice 111 k111)) w A n l) : LenSSS l := by
  refine ⟨by have := h.1; have := h.2.1; omega, fun x hx => ?_⟩
  obtain ⟨cs, A', c, _, _, hr⟩ := mem_of_C h x hx
  exact lenSS_of hr
/-- The same with what is known of the elements. -/
theorem sz_loopP {α : Type} (L : Nat → List α → Int → Int → Option Int) (G : Nat → α → Int → Option Int) (z : α) (cnt : α → Nat) (Pr : α → Prop)
    (hL : ∀ k xs left i, L (k + 1) xs left i = if i < (xs.length : Int) then (if 0 ≤ i then ((G k (xs.getD i.toNat z) left).bind fun t => (if t < 0 then (some (-1)) else (L k xs t (wrap64 (i + 1))))) else none) else some left)
    (hG : ∀ x (left : Int), Pr x → 0 ≤ left → left ≤ 1048576 → ∃ r, Evt (fun k => G k x left) r ∧ (0 ≤ r → r + cnt x = left)) (xs : List α) (hx : (xs.length : Int) ≤ 9223372036854775807) (hp : ∀ x ∈ xs, Pr x) :
    ∀ (left : Int), 0 ≤ left → left ≤ 1048576 → ∃ r, Evt (fun k => L k xs left 0) r ∧ (0 ≤ r → r + sumOf cnt xs = left) := by
  have key : ∀ d i : Nat, i + d = xs.length → ∀ left : Int, 0 ≤ left → left ≤ 1048576 → ∃ r, Evt (fun k => L k xs left i) r ∧ (0 ≤ r → r + sumOf cnt (xs.drop i) = left) := by
    intro d
    induction d with
    | zero =>
      intro i hi left h0 h1
      refine ⟨left, Evt.succ (h := fun _ => some left) (fun k => ?_) (.const _), fun _ => ?_⟩
      · rw [hL, if_neg (by omega)]
      · rw [List.drop_eq_nil_of_le (by omega)]
        simp [sumOf]
    | succ d ih =>
      intro i hi left h0 h1
      have hmem : xs.getD i z ∈ xs := by
        rw [List.getD_eq_getElem?_getD, List.getElem?_eq_getElem (show i < xs.length by omega)]
        exact List.getElem_mem _
      obtain ⟨r, hr, hrc⟩ := hG (xs.getD i z) left (hp _ hmem) h0 h1
      rw [drop_getD xs i z (by omega)]
      have st : ∀ k, L (k + 1) xs left i = (G k (xs.getD i z) left).bind fun t => (if t < 0 then (some (-1)) else (L k xs t (wrap64 ((i : Int) + 1)))) := fun k => by
        rw [hL, if_pos (by omega), if_pos (by omega), Int.toNat_natCast]
      by_cases hneg : r < 0
      · exact ⟨-1, Evt.succ st (Evt.bind hr (Evt.now fun k => if_pos hneg)), fun h => by omega⟩
      · obtain ⟨r2, hr2, hrc2⟩ := ih (i + 1) (by omega) r (by omega) (by have := hrc (by omega); omega)
        refine ⟨r2, Evt.succ st (Evt.bind hr ?_), fun h => ?_⟩
        · refine Evt.congr (fun k => ?_) hr2
          rw [if_neg hneg, wrap64_in (by omega) (by omega)]
          rfl
        · have := hrc2 h
          have := hrc (by omega)
          simp only [sumOf]
          omega
  intro left h0 h1
  obtain ⟨r, hr, hc⟩ := key xs.length 0 (by omega) left h0 h1
  exact ⟨r, hr, by simpa using hc⟩
theorem szSS_f (l : List (List S111)) (hl : LenSS l) (left : Int) (h0 : 0 ≤ left) (h1 : left ≤ 1048576) : ∃ r, Evt (fun k => laws_szTimerSS.f k l left) r ∧ (0 ≤ r → r + szSS l = left) := by
  by_cases h : left - l.length < 0
  · refine ⟨-1, .now fun _ => ?_, fun h => by omega⟩
    unfold laws_szTimerSS.f
    rw [wrap64_small left _ h0 h1 hl.1, if_pos h]
  · obtain ⟨r, hr, hc⟩ := sz_loopP laws_szTimerSS.l0 (fun _ x left => laws_szTimerS.f x left) [] szS LenS (fun _ _ _ _ => rfl) (fun x left hp a b => szS_f x hp left a b) l hl.1 hl.2 (left - l.length) (by omega) (by omega)
    refine ⟨r, Evt.congr (fun k => ?_) hr, fun h => by have := hc h; simp only [szSS]; omega⟩
    unfold laws_szTimerSS.f
    rw [wrap64_small left _ h0 h1 hl.1, if_neg h]
theorem szSSS_f (l : List (List (List S111))) (hl : LenSSS l) (left : Int) (h0 : 0 ≤ left) (h1 : left ≤ 1048576) : ∃ r, Evt (fun k => laws_szTimerSSS.f k l left) r ∧ (0 ≤ r → r + szSSS l = left) := by
  by_cases h : left - l.length < 0
  · refine ⟨-1, .now fun _ => ?_, fun h => by omega⟩
    unfold laws_szTimerSSS.f
    rw [wrap64_small left _ h0 h1 hl.1, if_pos h]
  · obtain ⟨r, hr, hc⟩ := sz_loopP laws_szTimerSSS.l0 laws_szTimerSS.f [] szSS LenSS (fun _ _ _ _ => rfl) (fun x left hp a b => szSS_f x hp left a b) l hl.1 hl.2 (left - l.length) (by omega) (by omega)
    refine ⟨r, Evt.congr (fun k => ?_) hr, fun h => by have := hc h; simp only [szSSS]; omega⟩
    unfold laws_szTimerSSS.f
    rw [wrap64_small left _ h0 h1 hl.1, if_neg h]
theorem szWheel_calls (now order : Int) (A : Option Addr) (c : Nat) (l : List (List (List S111))) (w : World) (hr : Kd.C (Kd.slice 100 (Kd.slice 111 k111)) w A l.length l) (hc : l.length ≤ c) :
    Calls Try.prog 10 #[.agg #[.int .i64 now, .int .i64 order, .slice A l.length c], .int .i64 1048576] w fun e w' => (∃ r : Int, e = .returned (.int .i64 r) ∧ (0 ≤ r → szSSS l ≤ 1048576)) ∧ Below w.heap.size w w' := by
  obtain ⟨r, he, h⟩ := szSSS_f l (lenSSS_of hr) 1048576 (by decide) (by decide)
  by_cases hn : r < 0
  · obtain ⟨k, hk⟩ := (show Evt (fun k => laws_szWheel.f k now order l 1048576) (-1) from Evt.bind (g := fun _ t106 => if t106 < 0 then (some (-1)) else (some t106)) he (.now fun _ => if_pos hn)).ex
    exact (laws_szWheel.calls k now order A c l 1048576 (-1) w hr hc hk).mono fun e w' h2 => ⟨⟨-1, h2.1, fun h => by omega⟩, h2.2⟩
  · obtain ⟨k, hk⟩ := (show Evt (fun k => laws_szWheel.f k now order l 1048576) r from Evt.bind (g := fun _ t106 => if t106 < 0 then (some (-1)) else (some t106)) he (.now fun _ => if_neg hn)).ex
    exact (laws_szWheel.calls k now order A c l 1048576 r w hr hc hk).mono fun e w' h2 => ⟨⟨r, h2.1, fun h0 => by have := h h0; omega⟩, h2.2⟩
/-! ### how large it is -/
theorem flat_szSS (l : List (List S111)) : (l.map (List.map cv)).flatten.length ≤ szSS l := by
  induction l with
  | nil => simp
  | cons x xs ih =>
    simp only [List.map_cons, List.flatten_cons, List.length_append, List.length_map, szSS, sumOf, szS, List.length_cons] at *
    omega
theorem flat_szSSS (l : List (List (List S111))) : (cv3 l).flatten.flatten.length ≤ szSSS l := by
  induction l with
  | nil => simp [cv3]
  | cons x xs ih =>
    have := flat_szSS x
    simp only [cv3, List.map_cons, List.flatten_cons, List.flatten_append, List.length_append, szSSS, sumOf, List.length_cons] at *
    omega

end Go.Proofs.Ytojpimpfpjhflaa.Wh
namespace Go.Proofs.Ytojpimpfpjhflaa.Wh
open Go.RowKit Go.Proofs.Ytojpimpfpjhflaa.Fw Go.Proofs.YtojpimpfpjhflaaW.PrintWords Go.Proofs.Ytojpimpfpjhflaa.PFnExactWheelOK
set_option linter.unusedVariables false
set_option linter.unusedSimpArgs false
def kd24 : Kd (Int × Int × List (List (List S111))) := Kd.pair (Kd.int .i64) (Kd.pair (Kd.int .i64) (Kd.slice 87 (Kd.slice 100 (Kd.slice 111 k111))))
theorem opens111 : Opens Try.prog 111 k111 :=
  opens_iso (fun v => ⟨v.1, v.2.1, v.2.2⟩) (fun _ => rfl) (opens_struct (fs := _) Try.underlying111 (by kernel_rfl) (opensFs_cons rfl (by kernel_rfl) (opens_int Try.underlying3) (opensFs_cons rfl (by kernel_rfl) (opens_int Try.underlying3) (opensFs_one rfl (by kernel_rfl) (opens_int Try.underlying3)))))
theorem opens22 : Opens Try.prog 22 (Kd.slice 87 (Kd.slice 100 (Kd.slice 111 k111))) :=
  opens_slice Try.underlying22 (opens_slice Try.underlying87 (opens_slice Try.underlying100 opens111 (by kernel_rfl)) (by kernel_rfl)) (by kernel_rfl)
theorem opens24 : Opens Try.prog 24 kd24 :=
  opens_struct (fs := _) Try.underlying24 (by kernel_rfl) (opensFs_cons rfl (by kernel_rfl) (opens_int Try.underlying3) (opensFs_cons rfl (by kernel_rfl) (opens_int Try.underlying3) (opensFs_one rfl (by kernel_rfl) opens22)))
end Go.Proofs.Ytojpimpfpjhflaa.Wh
namespace Go.Proofs.Ytojpimpfpjhflaa.Wh
open Go.RowKit Go.Proofs.Ytojpimpfpjhflaa.Fw Go.Proofs.YtojpimpfpjhflaaW.PrintWords Go.Proofs.Ytojpimpfpjhflaa.PFnExactWheelOK
set_option linter.unusedVariables false
set_option linter.unusedSimpArgs false

theorem lit55 (w : World) : (Instr.buildSlice 55 0 #[]).run Try.prog w = .ok (.slice (some ⟨w.heap.size, 0, none⟩) ([] : List S57).length ([] : List S57).length) (w.alloc (.cells ([] : List (List Value)).flatten.toArray 57)) := by kernel_rfl
set_option maxHeartbeats 1000000 in
/-- spec.l11Timers: all timers, slot by slot. -/
theorem timers_tri (now order : Int) (A : Option Addr) (c : Nat) (lv : List (List (List S57))) (w : World) (hr : Kd.C (Kd.slice 55 (Kd.slice 57 k57)) w A lv.length lv) (hbig : lv.flatten.flatten.length ≤ 1048576) :
    Tri Try.prog 40 #[.agg #[.int .i64 now, .int .i64 order, .slice A lv.length c]] w [] fun e LQ => ∃ A' c', e = .returned (.slice A' lv.flatten.flatten.length c') ∧ LQ = [RT A' c' lv.flatten.flatten] := by
  have hlen0 : lv.length ≤ 9223372036854775807 := hr.2.1
  refine tri_of_run0 (fn := Try.f40) (n := 35) Try.func40 rfl Try.ntmps40 (Nat.le_of_ble_eq_true rfl) fun H => ?_
  refine Run.seq (Run.regionL [0, 1] rfl ?_)
  refine WO.sbox 1 (cs := [.int .i64 now, .int .i64 order, .slice A lv.length c]) rfl rfl rfl rfl H ?_
  intro g1 w1 H1
  refine WO.v 2 rfl rfl (r_assignL rfl rfl) ?_
  refine WO.done (Run.seq (Run.regionL [0, 1] rfl ?_))
  refine WO.slit 6 (ow := o57) [] [] rfl rfl rfl rfl lit55 rfl own_nil_ (by decide) H1 ?_
  intro g w2 H2
  refine WO.v 3 rfl rfl (r_assignL rfl rfl) ?_
  refine WO.done (Run.seq (Run.seq (Run.regionL [0] rfl ?_)))
  refine WO.v 4 rfl rfl (r_assignI rfl rfl) ?_
  refine WO.done (Run.block ?_)
  refine Run.loopInv (fun m τ wr => ∃ (j : Nat) (A' : Option Addr) (c' : Nat) (ts : List S57), j + m = lv.length ∧ τ 1 = .pointer (some ⟨g1, 0, none⟩) ∧ τ 3 = .slice A' ts.length c' ∧ τ 4 = .int .i64 j ∧
      St w Em [RT A' c' ts, Bk g1 [.int .i64 now, .int .i64 order, .slice A lv.length c] 29] wr ∧ ts = (lv.take j).flatten.flatten) lv.length ⟨0, _, _, [], by omega, rfl, rfl, rfl, H2, rfl⟩ ?_
  clear H H1 H2
  rintro m τ wr ih ⟨j, A', c', ts, hm, h1, h3, h4, H, hts⟩
  refine Run.seq (Run.seq (Run.regionL [0, 1, 2, 3, 4] rfl ?_))
  refine WO.v 7 rfl rfl (r_moveI rfl h4) ?_
  refine WO.v 8 rfl rfl (r_fieldAddr rfl h1 Try.underlying29 rfl Try.sizeOf27 (q := 2) rfl) ?_
  refine WO.v 9 rfl rfl (r_load rfl rfl Try.isAgg27 (H.cell p1 rfl)) ?_
  refine WO.v 10 rfl rfl (r_len (e := 54) rfl rfl Try.underlying27) ?_
  refine WO.v 11 rfl rfl (r_lss rfl rfl rfl rfl) ?_
  refine WO.done (Run.test rfl (fun hq => ?_) (fun hq => ?_))
  · have hj : j < lv.length := by omega
    obtain ⟨b1, o1, A1, c1, rfl, hb1, hc1, hcc1, hr1⟩ := slice_at hr j hj
    have hlen1 : (lv.getD j []).length ≤ 9223372036854775807 := hr1.2.1
    refine Run.skip (Run.seq (Run.block (Run.seq (Run.regionL [0] rfl ?_))))
    refine WO.v 5 rfl rfl (r_assignI rfl rfl) ?_
    refine WO.done (Run.block ?_)
    refine Run.loopInv (fun m τ wr => ∃ (s : Nat) (A' : Option Addr) (c' : Nat) (ts : List S57), s + m = (lv.getD j []).length ∧ τ 1 = .pointer (some ⟨g1, 0, none⟩) ∧ τ 3 = .slice A' ts.length c' ∧ τ 4 = .int .i64 j ∧ τ 5 = .int .i64 s ∧
        St w Em [RT A' c' ts, Bk g1 [.int .i64 now, .int .i64 order, .slice (some ⟨b1, o1, none⟩) lv.length c] 29] wr ∧ ts = (lv.take j).flatten.flatten ++ ((lv.getD j []).take s).flatten) (lv.getD j []).length ⟨0, A', c', ts, by omega, h1, h3, h4, rfl, H, by simp [hts]⟩ ?_
    clear H h1 h3 h4 hts ts A' c'
    rintro m2 τ wr ih2 ⟨s, A', c', ts, hm2, h1, h3, h4, h5, H, hts⟩
    refine Run.seq (Run.seq (Run.regionL [0, 1, 2, 3, 4, 5, 6, 7] rfl ?_))
    refine WO.v 14 rfl rfl (r_moveI rfl h5) ?_
    refine WO.v 15 rfl rfl (r_fieldAddr rfl h1 Try.underlying29 rfl Try.sizeOf27 (q := 2) rfl) ?_
    refine WO.v 16 rfl rfl (r_load rfl rfl Try.isAgg27 (H.cell p1 rfl)) ?_
    refine WO.v 17 rfl rfl (r_moveI rfl h4) ?_
    refine WO.v 18 rfl rfl (r_indexAddr rfl rfl rfl Try.underlying27 Try.sizeOf54 (by omega) (by omega) (q := o1 + j) (by rw [Int.toNat_natCast, Nat.mul_one])) ?_
    refine WO.v 19 rfl rfl (r_load rfl rfl Try.isAgg54 ((H.below.cell (p := ⟨b1, o1 + j, none⟩) hb1).trans hc1)) ?_
    refine WO.v 20 rfl rfl (r_len (e := 55) rfl rfl Try.underlying54) ?_
    refine WO.v 21 rfl rfl (r_lss rfl rfl rfl rfl) ?_
    refine WO.done (Run.test rfl (fun hq2 => ?_) (fun hq2 => ?_))
    · have hs : s < (lv.getD j []).length := by omega
      obtain ⟨b2, o2, A2, c2, rfl, hb2, hc2, hcc2, hr2⟩ := slice_at hr1 s hs
      have hpre := pref_le lv j s hj hs
      rw [← hts] at hpre
      refine Run.skip (Run.seq (Run.block (Run.regionL [0, 1, 2, 3, 4, 5, 6, 7, 8, 9, 10] rfl ?_)))
      refine WO.v 24 rfl rfl (r_moveL rfl h3) ?_
      refine WO.v 25 rfl rfl (r_fieldAddr rfl h1 Try.underlying29 rfl Try.sizeOf27 (q := 2) rfl) ?_
      refine WO.v 26 rfl rfl (r_load rfl rfl Try.isAgg27 (H.cell p1 rfl)) ?_
      refine WO.v 27 rfl rfl (r_moveI rfl h4) ?_
      refine WO.v 28 rfl rfl (r_indexAddr rfl rfl rfl Try.underlying27 Try.sizeOf54 (by omega) (by omega) (q := o1 + j) (by rw [Int.toNat_natCast, Nat.mul_one])) ?_
      refine WO.v 29 rfl rfl (r_load rfl rfl Try.isAgg54 ((H.below.cell (p := ⟨b1, o1 + j, none⟩) hb1).trans hc1)) ?_
      refine WO.v 30 rfl rfl (r_moveI rfl h5) ?_
      refine WO.v 31 rfl rfl (r_indexAddr rfl rfl rfl Try.underlying54 Try.sizeOf55 (by omega) (by omega) (q := o2 + s) (by rw [Int.toNat_natCast, Nat.mul_one])) ?_
      refine WO.v 32 rfl rfl (r_load rfl rfl Try.isAgg55 ((H.below.cell (p := ⟨b2, o2 + s, none⟩) hb2).trans hc2)) ?_
      refine WO.sappend 33 rfl rfl rfl Try.underlying55 info57 rfl (Nat.succ_pos 2) rfl rfl flat57 H p0 (Kd.C_below hr2 H.below) (by omega) (by omega) ?_
      intro A3 c3 w3 H3
      refine WO.v 3 rfl rfl (r_assignL rfl rfl) ?_
      refine WO.done (Run.blockEnd (Run.regionL [0, 1, 2] rfl ?_))
      refine WO.v 22 rfl rfl (r_moveI rfl h5) ?_
      refine WO.v 23 rfl rfl (r_add rfl rfl rfl (c := (s : Int) + 1) (wrap_in (by omega) (by omega))) ?_
      refine WO.v 5 rfl rfl (r_assignI rfl rfl) ?_
      exact WO.done (ih2 (m2 - 1) _ _ (by omega) ⟨s + 1, A3, c3, ts ++ (lv.getD j []).getD s [], by omega, h1, rfl, h4, rfl, H3, by rw [hts, take_flat _ s hs, List.append_assoc]⟩)
    · refine Run.exit rfl (Run.blockEnd (Run.regionL [0, 1, 2] rfl ?_))
      refine WO.v 12 rfl rfl (r_moveI rfl h4) ?_
      refine WO.v 13 rfl rfl (r_add rfl rfl rfl (c := (j : Int) + 1) (wrap_in (by omega) (by omega))) ?_
      refine WO.v 4 rfl rfl (r_assignI rfl rfl) ?_
      exact WO.done (ih (m - 1) _ _ (by omega) ⟨j + 1, A', c', ts, by omega, h1, h3, rfl, H, by rw [hts, take_flat lv j hj, List.flatten_append, List.take_of_length_le (show (lv.getD j []).length ≤ s by omega)]⟩)
  · have hts' : ts = lv.flatten.flatten := by rw [hts, List.take_of_length_le (show lv.length ≤ j by omega)]
    subst hts'
    refine Run.exit rfl (Run.seq (Run.regionL [0, 1] rfl ?_))
    refine WO.v 34 rfl rfl (r_moveL rfl h3) ?_
    refine WO.v 2 rfl rfl (r_assignL rfl rfl) ?_
    exact WO.done (Run.ret1 Try.func40 Try.results40 rfl ⟨_, ⟨A', c', rfl, rfl⟩, H.sel (.c q0 .n)⟩)

/-! ### the first that is due -/
def IsMin (m : Int) (l : List S57) : Prop := (∃ x ∈ l, x.f1 = m) ∧ ∀ x ∈ l, m ≤ x.f1
theorem IsMin.uniq {m n : Int} {l : List S57} (h : IsMin m l) (h2 : IsMin n l) : m = n := by
  obtain ⟨⟨x, hx, rfl⟩, a⟩ := h
  obtain ⟨⟨y, hy, rfl⟩, b⟩ := h2
  have := a y hy
  have := b x hx
  omega
theorem IsMin.perm {m : Int} {l l' : List S57} (h : IsMin m l) (hp : l.Perm l') : IsMin m l' := by
  obtain ⟨⟨x, hx, e⟩, a⟩ := h
  exact ⟨⟨x, hp.mem_iff.1 hx, e⟩, fun y hy => a y (hp.mem_iff.2 hy)⟩
theorem IsMin.snoc {m : Int} {l : List S57} {x : S57} (h : IsMin m l) : IsMin (if x.f1 < m then x.f1 else m) (l ++ [x]) := by
  obtain ⟨⟨y, hy, e⟩, a⟩ := h
  by_cases c : x.f1 < m
  · rw [if_pos c]
    refine ⟨⟨x, by simp, rfl⟩, fun z hz => ?_⟩
    rcases List.mem_append.1 hz with hz | hz
    · have := a z hz; omega
    · simp at hz; subst hz; exact Int.le_refl _
  · rw [if_neg c]
    refine ⟨⟨y, List.mem_append_left _ hy, e⟩, fun z hz => ?_⟩
    rcases List.mem_append.1 hz with hz | hz
    · exact a z hz
    · simp at hz; subst hz; omega
theorem slotB_times (now order lvl slot : Int) : ∀ (p : Int) (l : List S57), slotB now order lvl slot p l = true → ∀ x ∈ l, now + 1 ≤ x.f1 ∧ x.f1 ≤ now + 500
  | p, [], _, x, hx => absurd hx List.not_mem_nil
  | p, y :: ys, h, x, hx => by
    unfold slotB at h
    split at h
    · rename_i hc
      rcases List.mem_cons.1 hx with rfl | hx
      · exact hc.1
      · exact slotB_times now order lvl slot y.f2 ys h x hx
    · cases h
theorem Good.times {now order : Int} {lv : List (List (List S57))} (hG : Good now order lv) : ∀ x ∈ lv.flatten.flatten, now + 1 ≤ x.f1 ∧ x.f1 ≤ now + 500 := by
  intro x hx
  obtain ⟨l, hl, hx⟩ := List.mem_flatten.1 hx
  obtain ⟨lvl, hlvl, hl⟩ := List.mem_flatten.1 hl
  obtain ⟨a, ha, rfl⟩ := List.getElem_of_mem hlvl
  obtain ⟨b, hb, rfl⟩ := List.getElem_of_mem hl
  have h := hG.level a (by have := hG.three; omega)
  have e1 : lv.getD a [] = lv[a] := by simp [List.getD_eq_getElem?_getD, List.getElem?_eq_getElem ha]
  rw [e1] at h
  have h' := h.2 b (by have := h.1; omega)
  have e2 : (lv[a]).getD b [] = (lv[a])[b] := by simp [List.getD_eq_getElem?_getD, List.getElem?_eq_getElem hb]
  rw [e2] at h'
  exact slotB_times now order _ _ 0 _ h' x hx
/-- What WheelNext answers. -/
def NextSaid (now order : Int) (lv : List (List (List S57))) (a b : Int) : Prop :=
  (¬ Good now order lv ∧ a = 0 ∧ b = 1) ∨ (Good now order lv ∧ lv.flatten.flatten = [] ∧ a = 0 ∧ b = 5) ∨ (Good now order lv ∧ lv.flatten.flatten ≠ [] ∧ b = 0 ∧ ∃ m, IsMin m lv.flatten.flatten ∧ a = m - now)
theorem NextSaid.uniq {now order : Int} {lv : List (List (List S57))} {a b a' b' : Int} (h : NextSaid now order lv a b) (h2 : NextSaid now order lv a' b') : a = a' ∧ b = b' := by
  rcases h with ⟨g, rfl, rfl⟩ | ⟨g, e, rfl, rfl⟩ | ⟨g, e, rfl, m, hm, rfl⟩ <;> rcases h2 with ⟨g', rfl, rfl⟩ | ⟨g', e', rfl, rfl⟩ | ⟨g', e', rfl, m', hm', rfl⟩ <;> first | exact ⟨rfl, rfl⟩ | exact absurd g' g | exact absurd g g' | exact absurd e e' | exact absurd e' e | exact ⟨by rw [hm.uniq hm'], rfl⟩
theorem getD_mem {l : List S57} {i : Nat} (h : i < l.length) : l.getD i z57 ∈ l := by
  rw [List.getD_eq_getElem?_getD, List.getElem?_eq_getElem h]
  exact List.getElem_mem _
theorem take_snoc (l : List S57) (i : Nat) (h : i < l.length) : l.take (i + 1) = l.take i ++ [l.getD i z57] := by
  rw [List.take_add_one, List.getElem?_eq_getElem h, List.getD_eq_getElem?_getD, List.getElem?_eq_getElem h]
  rfl

end Go.Proofs.Ytojpimpfpjhflaa.Wh
