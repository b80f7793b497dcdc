/- The wheel: slices.SortFunc at timers, by their orders (the shelf's contract). -/
import Derived.Shelf.SlSortCmp.NoneTotal
import Derived.Test.YtojpimpfpjhflaaUwp
namespace Go.Proofs
open Go.Shelf Go.RowKit Go.Lib Go.Sort
def Try.sortT_ren : Go.Shelf.Ren := ⟨fun | 6 => 58 | 15 => 72 | 14 => 71 | 28 => 88 | 29 => 89 | 20 => 80 | 21 => 81 | 22 => 82 | 23 => 83 | 24 => 84 | 25 => 85 | 26 => 86 | 27 => 87 | 46 => 91 | 47 => 92 | 48 => 93 | 49 => 94 | 50 => 95 | 57 => 96 | n => n, fun | 22 => 55 | 24 => 57 | 25 => 91 | 3 => 3 | 39 => 104 | 0 => 0 | 53 => 121 | 55 => 123 | 4 => 4 | 46 => 114 | 45 => 113 | 50 => 118 | 5 => 5 | 9 => 9 | 66 => 125 | 70 => 129 | 76 => 131 | 77 => 33 | n => n, fun | n => n⟩
theorem Try.sortT : SlLaysF0.n6 Try.prog Try.sortT_ren := {
  mixed := by kernel_rfl,
  f6 := ⟨Try.f58.name, by decide, Try.func58.trans (congrArg some (by kernel_rfl))⟩,
  f14 := ⟨Try.f71.name, by decide, Try.func71.trans (congrArg some (by kernel_rfl))⟩,
  f15 := Try.func72.trans (congrArg some (by kernel_rfl)),
  f20 := ⟨Try.f80.name, by decide, Try.func80.trans (congrArg some (by kernel_rfl))⟩,
  f21 := ⟨Try.f81.name, by decide, Try.func81.trans (congrArg some (by kernel_rfl))⟩,
  f22 := ⟨Try.f82.name, by decide, Try.func82.trans (congrArg some (by kernel_rfl))⟩,
  f23 := ⟨Try.f83.name, by decide, Try.func83.trans (congrArg some (by kernel_rfl))⟩,
  f24 := ⟨Try.f84.name, by decide, Try.func84.trans (congrArg some (by kernel_rfl))⟩,
  f25 := ⟨Try.f85.name, by decide, Try.func85.trans (congrArg some (by kernel_rfl))⟩,
  f26 := ⟨Try.f86.name, by decide, Try.func86.trans (congrArg some (by kernel_rfl))⟩,
  f27 := ⟨Try.f87.name, by decide, Try.func87.trans (congrArg some (by kernel_rfl))⟩,
  f28 := Try.func88.trans (congrArg some (by kernel_rfl)),
  f29 := Try.func89.trans (congrArg some (by kernel_rfl)),
  f46 := ⟨Try.f91.name, by decide, Try.func91.trans (congrArg some (by kernel_rfl))⟩,
  f47 := Try.func92.trans (congrArg some (by kernel_rfl)),
  f48 := Try.func93.trans (congrArg some (by kernel_rfl)),
  f49 := ⟨Try.f94.name, by decide, Try.func94.trans (congrArg some (by kernel_rfl))⟩,
  f50 := ⟨Try.f95.name, by decide, Try.func95.trans (congrArg some (by kernel_rfl))⟩,
  f57 := ⟨Try.f96.name, by decide, Try.func96.trans (congrArg some (by kernel_rfl))⟩,
  t0 := Try.underlying0,
  a0 := Try.isAgg0,
  z0 := Try.sizeOf0,
  v0 := Try.zeroValue0,
  t3 := Try.underlying3,
  a3 := Try.isAgg3,
  z3 := Try.sizeOf3,
  v3 := Try.zeroValue3,
  t4 := Try.underlying4,
  a4 := Try.isAgg4,
  z4 := Try.sizeOf4,
  v4 := Try.zeroValue4,
  t5 := Try.underlying5,
  a5 := Try.isAgg5,
  z5 := Try.sizeOf5,
  v5 := Try.zeroValue5,
  t9 := Try.underlying9,
  a9 := Try.isAgg9,
  z9 := Try.sizeOf9,
  v9 := Try.zeroValue9,
  t22 := Try.underlying55,
  a22 := Try.isAgg55,
  z22 := Try.sizeOf55,
  v22 := Try.zeroValue55,
  t25 := Try.underlying91,
  a25 := Try.isAgg91,
  z25 := Try.sizeOf91,
  v25 := Try.zeroValue91,
  t39 := Try.underlying104,
  a39 := Try.isAgg104,
  z39 := Try.sizeOf104,
  v39 := Try.zeroValue104,
  t45 := Try.underlying113,
  a45 := Try.isAgg113,
  z45 := Try.sizeOf113,
  v45 := Try.zeroValue113,
  t46 := Try.underlying114,
  a46 := Try.isAgg114,
  z46 := Try.sizeOf114,
  v46 := Try.zeroValue114,
  t50 := Try.underlying118,
  a50 := Try.isAgg118,
  z50 := Try.sizeOf118,
  v50 := Try.zeroValue118,
  t53 := Try.underlying121,
  a53 := Try.isAgg121,
  z53 := Try.sizeOf121,
  v53 := Try.zeroValue121,
  t55 := Try.underlying123,
  a55 := Try.isAgg123,
  z55 := Try.sizeOf123,
  v55 := Try.zeroValue123,
  t66 := Try.underlying125,
  a66 := Try.isAgg125,
  z66 := Try.sizeOf125,
  v66 := Try.zeroValue125,
  t70 := Try.underlying129,
  a70 := Try.isAgg129,
  z70 := Try.sizeOf129,
  v70 := Try.zeroValue129,
  t76 := Try.underlying131,
  a76 := Try.isAgg131,
  z76 := Try.sizeOf131,
  v76 := Try.zeroValue131,
  t77 := Try.underlying33,
  a77 := Try.isAgg33,
  z77 := Try.sizeOf33,
  v77 := Try.zeroValue33 }
end Go.Proofs
namespace Go.Proofs.Ytojpimpfpjhflaa.Wh
open Go.RowKit Go.Proofs.Ytojpimpfpjhflaa.Fw Go.Proofs.YtojpimpfpjhflaaW.PrintWords Go.Proofs.Ytojpimpfpjhflaa.PFnExactWheelOK
set_option linter.unusedVariables false
set_option linter.unusedSimpArgs false

/-- A timer whose order lies in the clock's range. -/
abbrev TO := { x : S57 // 0 ≤ x.f2 ∧ x.f2 ≤ 1000000 }
instance : Inhabited TO := ⟨⟨z57, by decide⟩⟩
def encO (x : TO) : List Value := encT x.val
def cmpO (x y : TO) : Int := x.val.f2 - y.val.f2
theorem swoO : Go.Sort.SWO (ltOf cmpO) where
  irrefl x := by simp [ltOf, cmpO]
  trans x y z h1 h2 := by
    have a := of_decide_eq_true h1
    have b := of_decide_eq_true h2
    exact decide_eq_true (by unfold cmpO at *; omega)
  ntrans x y z h1 h2 := by
    have a := of_decide_eq_false h1
    have b := of_decide_eq_false h2
    exact decide_eq_false (by unfold cmpO at *; omega)

/-- unwind's closure: a.Order - b.Order. -/
theorem closure59 (x y : TO) (W : World) : Calls Try.prog 59 #[.agg (encO x).toArray, .agg (encO y).toArray] W fun e w' => e = .returned (.int .i64 (cmpO x y)) ∧ ∃ q os', w' = Go.Sort.grow (W.drewN q) os' := by
  have hx := x.2
  have hy := y.2
  have hb := (Blk.new W [.int .i64 x.val.f0, .int .i64 x.val.f1, .int .i64 x.val.f2] 57).alloc (.cells #[.int .i64 y.val.f0, .int .i64 y.val.f1, .int .i64 y.val.f2] 57)
  have hb2 := Blk.new (W.alloc (.cells #[.int .i64 x.val.f0, .int .i64 x.val.f1, .int .i64 x.val.f2] 57)) [.int .i64 y.val.f0, .int .i64 y.val.f1, .int .i64 y.val.f2] 57
  refine calls_of_run (fn := Try.f59) (n := 10) Try.func59 rfl Try.ntmps59 (Nat.le_of_ble_eq_true rfl) ?_
  refine Run.seq (Run.regionL [0, 1, 2] rfl ?_)
  refine WO.v 2 rfl rfl (r_box (cs := #[.int .i64 x.val.f0, .int .i64 x.val.f1, .int .i64 x.val.f2]) rfl rfl rfl) ?_
  refine WO.v 3 rfl rfl (r_box (cs := #[.int .i64 y.val.f0, .int .i64 y.val.f1, .int .i64 y.val.f2]) rfl rfl rfl) ?_
  refine WO.v 4 rfl rfl (r_assignI rfl rfl) ?_
  refine WO.done (Run.seq (Run.regionL [0, 1, 2, 3, 4, 5] rfl ?_))
  refine WO.v 5 rfl rfl (r_fieldAddr rfl rfl Try.underlying57 rfl Try.sizeOf3 rfl) ?_
  refine WO.v 6 rfl rfl (r_load rfl rfl Try.isAgg3 (hb.cell 2 _ rfl)) ?_
  refine WO.v 7 rfl rfl (r_fieldAddr rfl rfl Try.underlying57 rfl Try.sizeOf3 rfl) ?_
  refine WO.v 8 rfl rfl (r_load rfl rfl Try.isAgg3 (hb2.cell 2 _ rfl)) ?_
  refine WO.v 9 rfl rfl (r_sub rfl rfl rfl (wrap_in (by omega) (by omega))) ?_
  refine WO.v 4 rfl rfl (r_assignI rfl rfl) ?_
  exact WO.done (Run.ret1 (v1 := .int .i64 (cmpO x y)) Try.func59 Try.results59 rfl ⟨rfl, 0, _, by rw [Go.Sort.alloc_eq_grow, Go.Sort.alloc_eq_grow, Go.Sort.grow_grow]; rfl⟩)
theorem cmpLays59 (blk off size : Nat) (w : World) : CmpLays Try.prog 59 #[] encO 3 cmpO blk off size w := fun _ _ _ _ x y => closure59 x y _

theorem bigs57 {w : World} : ∀ {ts : List S57} {vss : List (List Value)} {S : Fp}, bigs o57 w S ts vss → vss = ts.map encT
  | [], [], _, _ => rfl
  | x :: xs, vs :: vss, S, ⟨S1, S2, h1, h2, _⟩ => by
    obtain ⟨_, _, _, _, rfl, rfl, ⟨_, _, _, _, rfl, rfl, rfl, _⟩, _⟩ := h1
    rw [bigs57 h2]
    rfl
theorem flatT_map (ts : List S57) : (ts.map encT).flatten = flatT ts := by rw [flatT, List.flatMap_def]
theorem rowP57 {w : World} {S : Fp} {v : Value} {ts : List S57} (h : rowP o57 57 w S v ts) : (∀ k, v.ownBlock = some k → S k) ∧ w.ownsRow 0 57 3 v ts.length (flatT ts) := by
  obtain ⟨vss, h1, h2, h3⟩ := h
  rw [bigs57 h3, flatT_map] at h2
  exact ⟨h1, h2⟩
theorem rowP57_mk {w : World} {S : Fp} {v : Value} {ts : List S57} (h1 : ∀ k, v.ownBlock = some k → S k) (h2 : w.ownsRow 0 57 3 v ts.length (flatT ts)) : rowP o57 57 w S v ts :=
  ⟨ts.map encT, h1, by rw [flatT_map]; exact h2, bigs_flat flat57 (by simp) fun j x vs hx hv => by
    rw [List.getElem?_map, hx] at hv
    cases hv
    exact k57_mk w x⟩

theorem sort_rw : SortRw := by
  intro A c ts w hord hfew S hS hl
  obtain ⟨S1, S2, hrow, _, _, hS1, _⟩ := hS
  obtain ⟨hob, hown⟩ := rowP57 hrow
  have eg : ∀ args w, (callFunc 59 args).run Try.prog w = .ok (.enter 59 args) w := Try.call59
  cases ts with
  | nil =>
    have h := AnyF.slices_SortFunc_none Try.sortT A c (.func (.func 59) #[] #[]) w
    change Calls Try.prog 58 _ _ _ at h
    refine h.mono ?_
    rintro e w' ⟨rfl, rfl⟩
    exact ⟨[RT A c []], ⟨rfl, [], List.Perm.refl _, List.Pairwise.nil, rfl⟩, St.start ⟨S1, Em, hrow, trivial, fun _ _ h => h, hS1, fun _ h => h.elim⟩ hl⟩
  | cons t0 ts0 =>
    generalize hts : t0 :: ts0 = ts at *
    have hn : 0 < ts.length := by rw [← hts]; simp
    clear hts
    rcases hown.2 with ⟨_, h0⟩ | ⟨g, cap, cur, he, _, hh, hnc, hcm, hcs, htk⟩
    · omega
    cases he
    have hg : g < w.heap.size := (Array.getElem?_eq_some_iff.1 hh).1
    generalize hd : (ts.attach.map fun x => (⟨x.1, hord x.1 x.2⟩ : TO)).toArray = d
    have hds : d.size = ts.length := by rw [← hd]; simp
    have hdl : d.toList.map (·.val) = ts := by rw [← hd]; simp
    have hdg : ∀ i, i < ts.length → (d[i]!).val = ts.getD i z57 := fun i hi => by
      rw [getElem!_pos d i (by omega)]
      have : (d.toList.map (·.val))[i]? = some (d[i].val) := by simp [List.getElem?_eq_getElem, hds, hi]
      rw [hdl] at this
      simp [List.getD_eq_getElem?_getD, this]
    have hH : Go.Sort.HoldsK encO 3 w g 0 d := by
      intro j hj
      rw [Go.Sort.size_flatK, hds] at hj
      have hj3 : j / 3 < ts.length := by omega
      rw [Go.Sort.get_flatK _ _ _ _ (by rw [hds]; exact hj), Nat.zero_add]
      refine ⟨?_, by simp [World.frozen?, hh]⟩
      have h1 : (flatT ts)[j]? = (encT (ts.getD (j / 3) z57))[j % 3]? := by
        have := flatT_get ts (j / 3) (j % 3) (by omega) hj3
        rwa [show j / 3 * 3 + j % 3 = j from by omega] at this
      rw [← htk, List.getElem?_take_of_lt hj] at h1
      have h2 : w.cell? ⟨g, j, none⟩ = cur[j]? := by simp [World.cell?, hh]
      rw [h2, ← Array.getElem?_toList, h1, show encO d[j / 3]! = encT (ts.getD (j / 3) z57) from by rw [encO, hdg _ hj3]]
      have hl3 : j % 3 < (encT (ts.getD (j / 3) z57)).length := by simp [encT]; omega
      rw [List.getElem?_eq_getElem hl3, getElem!_pos (encT (ts.getD (j / 3) z57)) (j % 3) hl3]
      rfl
    have h := AnyQ.slices_SortFunc Try.sortT 3 Try.isAgg57 Try.sizeOf57 encO (fun _ => rfl) (fun x v hv => by simp [encO, encT] at hv; rcases hv with rfl | rfl | rfl <;> rfl) cmpO swoO 59 #[] g 0 c d w eg (cmpLays59 g 0 d.size w) hH hg (by omega)
    change Calls Try.prog 58 _ _ _ at h
    rw [hds] at h
    refine h.mono ?_
    rintro e w' ⟨rfl, d', n, os, hp, hs, rfl⟩
    obtain ⟨p1', _, p3⟩ := hp
    have p1 : d'.size = ts.length := p1'.trans hds
    have hp' : d'.toList.Perm d.toList := by
      have e1 : d'.extract 0 ts.length = d' := by rw [← p1]; exact Array.extract_size
      have e2 : d.extract 0 ts.length = d := by rw [← hds]; exact Array.extract_size
      rwa [e1, e2] at p3
    have hpt : (d'.toList.map (·.val)).Perm ts := by
      have := hp'.map (·.val)
      rwa [hdl] at this
    have hlen : (d'.toList.map (·.val)).length = ts.length := hpt.length_eq
    have hmut : Mut (fun k => k = g) w (sortWorldK encO 3 w g 0 n d' os) := by
      refine ⟨rfl, rfl, rfl, by simp only [sortWorldK, Go.Sort.putRowK, Go.Sort.putRow, Go.Sort.mapBlock, Go.Sort.ahead, Go.Sort.grow, Array.size_append, Array.size_modify]; omega, fun k hk hne => ?_⟩
      simp only [sortWorldK, Go.Sort.putRowK, Go.Sort.putRow, Go.Sort.mapBlock, Go.Sort.ahead, Go.Sort.grow]
      rw [Array.getElem?_append_left (by simpa using hk), Array.getElem?_modify, if_neg (Ne.symm hne)]
    have hblk : (sortWorldK encO 3 w g 0 n d' os).heap[g]? = some (.cells (Go.Sort.putCells id 0 (Go.Sort.flatK encO 3 d') cur) 57 (0, 0)) := by
      simp only [sortWorldK, Go.Sort.putRowK, Go.Sort.putRow, Go.Sort.mapBlock, Go.Sort.ahead, Go.Sort.grow]
      rw [Array.getElem?_append_left (by simpa using hg), Array.getElem?_modify, if_pos rfl, hh]
      rfl
    refine ⟨[RT (some ⟨g, 0, none⟩) c (d'.toList.map (·.val))], ⟨rfl, _, hpt, ?_, rfl⟩, hmut.mono fun k _ hk => hS1 k (hob k (by rw [hk]; rfl)), fun k => k = g, ⟨fun k => k = g, Em, ?_, trivial, fun _ _ h => h, fun _ h => h, fun _ h => h.elim⟩, fun k hk => ?_⟩
    · refine List.pairwise_iff_getElem.2 fun i j hi hj hij => ?_
      simp at hi hj
      have := hs i j (Nat.zero_le _) hij (by omega)
      rw [getElem!_pos d' i (by omega), getElem!_pos d' j (by omega)] at this
      have h3 := of_decide_eq_false this
      unfold cmpO at h3
      simp only [List.getElem_map, Array.getElem_toList]
      omega
    · refine rowP57_mk (fun k hk => by simpa [Value.ownBlock] using hk.symm) ⟨by rw [flatT_length], .inr ⟨g, c, _, rfl, Nat.zero_le _, hblk, by rw [hlen]; exact hnc, hcm, by simpa [Go.Sort.putCells] using hcs, ?_⟩⟩
      rw [hlen]
      refine List.ext_getElem? fun j => ?_
      have hle : ts.length * 3 ≤ c * 3 := Nat.mul_le_mul_right _ hnc
      by_cases hj : j < ts.length * 3
      · have hj3 : j / 3 < ts.length := by omega
        rw [List.getElem?_take_of_lt hj, Array.getElem?_toList]
        have h1 := flatT_get (d'.toList.map (·.val)) (j / 3) (j % 3) (by omega) (by omega)
        rw [show j / 3 * 3 + j % 3 = j from by omega] at h1
        rw [h1]
        have hjc : j < cur.size := by rw [hcs]; omega
        simp only [Go.Sort.putCells, Array.getElem?_mapIdx, Array.getElem?_eq_getElem hjc, Option.map_some, Go.Sort.size_flatK, p1]
        rw [if_pos ⟨Nat.zero_le _, by omega⟩, Nat.sub_zero, Go.Sort.get_flatK _ _ _ _ (by omega)]
        have e3 : (d'.toList.map (·.val)).getD (j / 3) z57 = (d'[j / 3]!).val := by
          rw [getElem!_pos d' (j / 3) (by omega)]
          simp [List.getD_eq_getElem?_getD, List.getElem?_eq_getElem, p1, hj3]
        rw [e3]
        have hl3 : j % 3 < (encT (d'[j / 3]!).val).length := by simp [encT]; omega
        rw [List.getElem?_eq_getElem hl3, show encO d'[j / 3]! = encT (d'[j / 3]!).val from rfl, getElem!_pos (encT (d'[j / 3]!).val) (j % 3) hl3]
        rfl
      · rw [List.getElem?_eq_none (by rw [List.length_take]; omega), List.getElem?_eq_none (by rw [flatT_length]; omega)]
    · subst hk
      exact ⟨(Array.getElem?_eq_some_iff.1 hblk).1, .inl (hS1 _ (hob _ rfl))⟩
end Go.Proofs.Ytojpimpfpjhflaa.Wh
