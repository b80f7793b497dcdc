/- The wheel: FnExactWheelOK's walk. -/
import Derived.Test.YtojpimpfpjhflaaTop
import Derived.Test.YtojpimpfpjhflaaSpecOK
import Derived.Test.YtojpimpfpjhflaaOpn
import Derived.Test.YtojpimpfpjhflaaEqs
namespace Go.Proofs.Ytojpimpfpjhflaa.Wh
open Go.RowKit Go.Proofs.Ytojpimpfpjhflaa.Fw Go.Proofs.YtojpimpfpjhflaaW.PrintWords Go.Proofs.Ytojpimpfpjhflaa.PFnExactWheelOK
set_option linter.unusedVariables false
set_option linter.unusedSimpArgs false

/-! ### szWheel: what is left of the bound -/
theorem wrap64_small (left : Int) (n : Nat) (h0 : 0 ≤ left) (h1 : left ≤ 1048576) (hn : (n : Int) ≤ 9223372036854775807) : wrap64 (left - n) = left - n := wrap64_in (by omega) (by omega)
theorem szS_f (l : List S111) (hl : (l.length : Int) ≤ 9223372036854775807) (left : Int) (h0 : 0 ≤ left) (h1 : left ≤ 1048576) : ∃ r, Evt (fun _ => laws_szTimerS.f l left) r ∧ (0 ≤ r → r + szS l = left) := by
  have hz : ∀ l : List S111, sumOf (fun _ => 0) l = 0 := fun l => by
    induction l with
    | nil => rfl
    | cons x xs ih => simp [sumOf, ih]
  by_cases h : left - l.length < 0
  · refine ⟨-1, .now fun _ => ?_, fun h => by omega⟩
    unfold laws_szTimerS.f
    rw [wrap64_small left _ h0 h1 hl, if_pos h]
  · refine ⟨left - l.length, .now fun _ => ?_, fun _ => by simp only [szS, hz]; omega⟩
    unfold laws_szTimerS.f
    rw [wrap64_small left _ h0 h1 hl, if_neg h]
/-- Lengths as they are in memory. -/
def LenS (l : List S111) : Prop := (l.length : Int) ≤ 9223372036854775807
def LenSS (l : List (List S111)) : Prop := (l.length : Int) ≤ 9223372036854775807 ∧ ∀ x ∈ l, LenS x
def LenSSS (l : List (List (List S111))) : Prop := (l.length : Int) ≤ 9223372036854775807 ∧ ∀ x ∈ l, LenSS x
theorem mem_of_C {α : Type} {d : Kd α} {w : World} {A : Option Addr} {n : Nat} {xs : List α} (h : d.C w A n xs) : ∀ x ∈ xs, ∃ cs, d.K w x cs := by
  intro x hx
  obtain ⟨j, hj, rfl⟩ := List.getElem_of_mem hx
  obtain ⟨ad, _, hc⟩ := h.2.2 (by have := h.1; omega)
  obtain ⟨c, _, hk, _⟩ := hc j _ (List.getElem?_eq_getElem hj)
  exact ⟨c, hk⟩
theorem lenS_of {w : World} {A : Option Addr} {n : Nat} {l : List S111} (h : Kd.C k111 w A n l) : LenS l := by
  have := h.1
  have := h.2.1
  unfold LenS
  omega
theorem lenSS_of {w : World} {A : Option Addr} {n : Nat} {l : List (List S111)} (h : Kd.C (Kd.slice 111 k111) w A n l) : LenSS l := by
  refine ⟨by have := h.1; have := h.2.1; omega, fun x hx => ?_⟩
  obtain ⟨cs, A', c, _, _, hr⟩ := mem_of_C h x hx
  exact lenS_of hr
theorem lenSSS_of {w : World} {A : Option Addr} {n : Nat} {l : List (List (List S111))} (h : Kd.C (Kd.slice 100 (Kd.slice 111 k111)) w A n l) : LenSSS l := by
  refine ⟨by have := h.1; have := h.2.1; omega, fun x hx => ?_⟩
  obtain ⟨cs, A', c, _, _, hr⟩ := mem_of_C h x hx
  exact lenSS_of hr
/-- The same with what is known of the elements. -/
theorem sz_loopP {α : Type} (L : Nat → List α → Int → Int → Option Int) (G : Nat → α → Int → Option Int) (z : α) (cnt : α → Nat) (Pr : α → Prop)
    (hL : ∀ k xs left i, L (k + 1) xs left i = if i < (xs.length : Int) then (if 0 ≤ i then ((G k (xs.getD i.toNat z) left).bind fun t => (if t < 0 then (some (-1)) else (L k xs t (wrap64 (i + 1))))) else none) else some left)
    (hG : ∀ x (left : Int), Pr x → 0 ≤ left → left ≤ 1048576 → ∃ r, Evt (fun k => G k x left) r ∧ (0 ≤ r → r + cnt x = left)) (xs : List α) (hx : (xs.length : Int) ≤ 9223372036854775807) (hp : ∀ x ∈ xs, Pr x) :
    ∀ (left : Int), 0 ≤ left → left ≤ 1048576 → ∃ r, Evt (fun k => L k xs left 0) r ∧ (0 ≤ r → r + sumOf cnt xs = left) := by
  have key : ∀ d i : Nat, i + d = xs.length → ∀ left : Int, 0 ≤ left → left ≤ 1048576 → ∃ r, Evt (fun k => L k xs left i) r ∧ (0 ≤ r → r + sumOf cnt (xs.drop i) = left) := by
    intro d
    induction d with
    | zero =>
      intro i hi left h0 h1
      refine ⟨left, Evt.succ (h := fun _ => some left) (fun k => ?_) (.const _), fun _ => ?_⟩
      · rw [hL, if_neg (by omega)]
      · rw [List.drop_eq_nil_of_le (by omega)]
        simp [sumOf]
    | succ d ih =>
      intro i hi left h0 h1
      have hmem : xs.getD i z ∈ xs := by
        rw [List.getD_eq_getElem?_getD, List.getElem?_eq_getElem (show i < xs.length by omega)]
        exact List.getElem_mem _
      obtain ⟨r, hr, hrc⟩ := hG (xs.getD i z) left (hp _ hmem) h0 h1
      rw [drop_getD xs i z (by omega)]
      have st : ∀ k, L (k + 1) xs left i = (G k (xs.getD i z) left).bind fun t => (if t < 0 then (some (-1)) else (L k xs t (wrap64 ((i : Int) + 1)))) := fun k => by
        rw [hL, if_pos (by omega), if_pos (by omega), Int.toNat_natCast]
      by_cases hneg : r < 0
      · exact ⟨-1, Evt.succ st (Evt.bind hr (Evt.now fun k => if_pos hneg)), fun h => by omega⟩
      · obtain ⟨r2, hr2, hrc2⟩ := ih (i + 1) (by omega) r (by omega) (by have := hrc (by omega); omega)
        refine ⟨r2, Evt.succ st (Evt.bind hr ?_), fun h => ?_⟩
        · refine Evt.congr (fun k => ?_) hr2
          rw [if_neg hneg, wrap64_in (by omega) (by omega)]
          rfl
        · have := hrc2 h
          have := hrc (by omega)
          simp only [sumOf]
          omega
  intro left h0 h1
  obtain ⟨r, hr, hc⟩ := key xs.length 0 (by omega) left h0 h1
  exact ⟨r, hr, by simpa using hc⟩
theorem szSS_f (l : List (List S111)) (hl : LenSS l) (left : Int) (h0 : 0 ≤ left) (h1 : left ≤ 1048576) : ∃ r, Evt (fun k => laws_szTimerSS.f k l left) r ∧ (0 ≤ r → r + szSS l = left) := by
  by_cases h : left - l.length < 0
  · refine ⟨-1, .now fun _ => ?_, fun h => by omega⟩
    unfold laws_szTimerSS.f
    rw [wrap64_small left _ h0 h1 hl.1, if_pos h]
  · obtain ⟨r, hr, hc⟩ := sz_loopP laws_szTimerSS.l0 (fun _ x left => laws_szTimerS.f x left) [] szS LenS (fun _ _ _ _ => rfl) (fun x left hp a b => szS_f x hp left a b) l hl.1 hl.2 (left - l.length) (by omega) (by omega)
    refine ⟨r, Evt.congr (fun k => ?_) hr, fun h => by have := hc h; simp only [szSS]; omega⟩
    unfold laws_szTimerSS.f
    rw [wrap64_small left _ h0 h1 hl.1, if_neg h]
theorem szSSS_f (l : List (List (List S111))) (hl : LenSSS l) (left : Int) (h0 : 0 ≤ left) (h1 : left ≤ 1048576) : ∃ r, Evt (fun k => laws_szTimerSSS.f k l left) r ∧ (0 ≤ r → r + szSSS l = left) := by
  by_cases h : left - l.length < 0
  · refine ⟨-1, .now fun _ => ?_, fun h => by omega⟩
    unfold laws_szTimerSSS.f
    rw [wrap64_small left _ h0 h1 hl.1, if_pos h]
  · obtain ⟨r, hr, hc⟩ := sz_loopP laws_szTimerSSS.l0 laws_szTimerSS.f [] szSS LenSS (fun _ _ _ _ => rfl) (fun x left hp a b => szSS_f x hp left a b) l hl.1 hl.2 (left - l.length) (by omega) (by omega)
    refine ⟨r, Evt.congr (fun k => ?_) hr, fun h => by have := hc h; simp only [szSSS]; omega⟩
    unfold laws_szTimerSSS.f
    rw [wrap64_small left _ h0 h1 hl.1, if_neg h]
theorem szWheel_calls (now order : Int) (A : Option Addr) (c : Nat) (l : List (List (List S111))) (w : World) (hr : Kd.C (Kd.slice 100 (Kd.slice 111 k111)) w A l.length l) (hc : l.length ≤ c) :
    Calls Try.prog 10 #[.agg #[.int .i64 now, .int .i64 order, .slice A l.length c], .int .i64 1048576] w fun e w' => (∃ r : Int, e = .returned (.int .i64 r) ∧ (0 ≤ r → szSSS l ≤ 1048576)) ∧ Below w.heap.size w w' := by
  obtain ⟨r, he, h⟩ := szSSS_f l (lenSSS_of hr) 1048576 (by decide) (by decide)
  by_cases hn : r < 0
  · obtain ⟨k, hk⟩ := (show Evt (fun k => laws_szWheel.f k now order l 1048576) (-1) from Evt.bind (g := fun _ t106 => if t106 < 0 then (some (-1)) else (some t106)) he (.now fun _ => if_pos hn)).ex
    exact (laws_szWheel.calls k now order A c l 1048576 (-1) w hr hc hk).mono fun e w' h2 => ⟨⟨-1, h2.1, fun h => by omega⟩, h2.2⟩
  · obtain ⟨k, hk⟩ := (show Evt (fun k => laws_szWheel.f k now order l 1048576) r from Evt.bind (g := fun _ t106 => if t106 < 0 then (some (-1)) else (some t106)) he (.now fun _ => if_neg hn)).ex
    exact (laws_szWheel.calls k now order A c l 1048576 r w hr hc hk).mono fun e w' h2 => ⟨⟨r, h2.1, fun h0 => by have := h h0; omega⟩, h2.2⟩
/-! ### how large it is -/
theorem flat_szSS (l : List (List S111)) : (l.map (List.map cv)).flatten.length ≤ szSS l := by
  induction l with
  | nil => simp
  | cons x xs ih =>
    simp only [List.map_cons, List.flatten_cons, List.length_append, List.length_map, szSS, sumOf, szS, List.length_cons] at *
    omega
theorem flat_szSSS (l : List (List (List S111))) : (cv3 l).flatten.flatten.length ≤ szSSS l := by
  induction l with
  | nil => simp [cv3]
  | cons x xs ih =>
    have := flat_szSS x
    simp only [cv3, List.map_cons, List.flatten_cons, List.flatten_append, List.length_append, szSSS, sumOf, List.length_cons] at *
    omega

set_option maxHeartbeats 1000000 in
theorem lawOK_calls (now order : Int) (A : Option Addr) (c : Nat) (l : List (List (List S111))) (w : World) (hr : Kd.C (Kd.slice 100 (Kd.slice 111 k111)) w A l.length l) (hc : l.length ≤ c) :
    Calls Try.prog 3 #[.agg #[.int .i64 now, .int .i64 order, .slice A l.length c]] w fun e w' => e = .returned (.bool true) ∧ Below w.heap.size w w' := by
  have H := St.nil w
  refine calls_of_run (fn := Try.f3) (n := 27) Try.func3 rfl Try.ntmps3 (Nat.le_of_ble_eq_true rfl) ?_
  refine Run.seq (Run.regionL [0, 1] rfl ?_)
  refine WO.sbox 1 (cs := [.int .i64 now, .int .i64 order, .slice A l.length c]) rfl rfl rfl rfl H ?_
  intro g1 w1 H1
  refine WO.v 2 rfl rfl (r_assignB rfl rfl) ?_
  refine WO.done (Run.seq (Run.regionL [0] rfl ?_))
  refine WO.v 3 rfl rfl (r_assignI rfl rfl) ?_
  refine WO.done (Run.seq (Run.regionL [0, 1, 2, 3] rfl ?_))
  refine WO.v 7 rfl rfl (r_loadK (vs := [.int .i64 now, .int .i64 order, .slice A l.length c]) rfl rfl Try.isAgg24 Try.sizeOf24 rfl (H1.cells p0)) ?_
  refine WO.v 8 rfl rfl (r_moveI rfl rfl) ?_
  refine WO.call_ 9 rfl rfl Try.call10 (szWheel_calls now order A c l w1 (Kd.C_below hr H1.below) hc) rfl rfl ?_
  rintro e w2 ⟨⟨r, rfl, hsz⟩, hb2⟩
  refine ⟨_, rfl, ?_⟩
  have H2 := H1.step hb2
  refine WO.v 3 rfl rfl (r_assignI rfl rfl) ?_
  refine WO.done (Run.seq (Run.seq (Run.regionL [0, 1] rfl ?_)))
  refine WO.v 10 rfl rfl (r_moveI rfl rfl) ?_
  refine WO.v 11 rfl rfl (r_lss rfl rfl rfl rfl) ?_
  refine WO.done (Run.test rfl (fun hneg => ?_) (fun hpos => ?_))
  · refine Run.seq (Run.regionL [0] rfl ?_)
    refine WO.v 2 rfl rfl (r_assignB rfl rfl) ?_
    exact WO.done (Run.ret1 (v1 := .bool true) Try.func3 Try.results3 rfl ⟨rfl, H2.below⟩)
  · have hs : szSSS l ≤ 1048576 := hsz (by omega)
    have hbig : (cv3 l).flatten.flatten.length ≤ 1048576 := Nat.le_trans (flat_szSSS l) hs
    refine Run.skip (Run.seq (Run.regionL [0, 1, 2, 3] rfl ?_))
    refine WO.v 12 rfl rfl (r_loadK (vs := [.int .i64 now, .int .i64 order, .slice A l.length c]) rfl rfl Try.isAgg24 Try.sizeOf24 rfl (H2.cells p0)) ?_
    refine WO.scall 13 rfl rfl Try.call12 H2 .n (toWheel_tri now order A c l w2 (Kd.C_below hr H2.below) hs) rfl rfl ?_
    rintro e LQ w3 ⟨A3, c3, rfl, rfl⟩ H3
    refine ⟨_, rfl, ?_⟩
    have hr3 := H3.rd p0
    refine WO.call_ 14 rfl rfl Try.call11 (specOK_calls now order A3 c3 (cv3 l) w3 hr3.2.2 hr3.2.1 hbig) rfl rfl ?_
    rintro e w4 ⟨⟨b, rfl, hb1, hb0⟩, hb4⟩
    refine ⟨_, rfl, ?_⟩
    have H4 := H3.step hb4
    refine WO.v 4 rfl rfl (r_assignB rfl rfl) ?_
    refine WO.done (Run.seq (Run.regionL [0, 1, 2, 3] rfl ?_))
    refine WO.v 15 rfl rfl (r_loadK (vs := [.int .i64 now, .int .i64 order, .slice A l.length c]) rfl rfl Try.isAgg24 Try.sizeOf24 rfl (H4.cells p1)) ?_
    refine WO.scall 16 rfl rfl Try.call12 H4 .n (toWheel_tri now order A c l w4 (Kd.C_below hr H4.below) hs) rfl rfl ?_
    rintro e LQ w5 ⟨A5, c5, rfl, rfl⟩ H5
    refine ⟨_, rfl, ?_⟩
    refine WO.salloc 5 (cs := [.int .i64 0, .int .i64 0, .slice none 0 0]) rfl rfl rfl Try.zeroValue29 rfl H5 ?_
    intro g5 w6 H6
    refine WO.sstoreK (vs := [.int .i64 now, .int .i64 order, .slice A5 (cv3 l).length c5]) rfl rfl rfl rfl rfl rfl rfl Try.sizeOf29 rfl H6 p0 rfl ?_
    intro w7 H7'
    have H7 : St w Em [Bk g5 [.int .i64 now, .int .i64 order, .slice A5 (cv3 l).length c5] 29, Rw o54 54 (.slice A5 (cv3 l).length c5) (cv3 l), Bk g1 [.int .i64 now, .int .i64 order, .slice A l.length c] 24] w7 := H7'.sel (.c q0 (.c q0 (.c q1 .n)))
    refine WO.done (Run.seq (Run.regionL [0, 1, 2] rfl ?_))
    refine WO.v 17 rfl rfl (r_loadK (vs := [.int .i64 now, .int .i64 order, .slice A5 (cv3 l).length c5]) rfl rfl Try.isAgg29 Try.sizeOf29 rfl (H7.cells p0)) ?_
    refine WO.call_ 18 rfl rfl Try.call13 (implOK_calls now order A5 c5 (cv3 l) w7 (H7.rdC p1) hbig) rfl rfl ?_
    rintro e w8 ⟨⟨b2, rfl, hi1, hi0⟩, hb8⟩
    refine ⟨_, rfl, ?_⟩
    have H8 := H7.step hb8
    have hbb : b2 = b := by
      cases b with
      | true =>
        cases b2 with
        | true => rfl
        | false => exact absurd (hb1 rfl) (hi0 rfl)
      | false =>
        cases b2 with
        | true => exact absurd (hi1 rfl) (hb0 rfl)
        | false => rfl
    subst hbb
    refine WO.v 6 rfl rfl (r_assignB rfl rfl) ?_
    refine WO.done (Run.seq (Run.seq (Run.regionL [0, 1, 2] rfl ?_)))
    refine WO.v 19 rfl rfl (r_moveB rfl rfl) ?_
    refine WO.v 20 rfl rfl (r_moveB rfl rfl) ?_
    refine WO.v 21 rfl rfl (r_neqB rfl rfl rfl Try.underlying4 (q := false) (by cases b2 <;> rfl)) ?_
    refine WO.done (Run.condF rfl (Run.skip (Run.seq (Run.seq ?_))))
    refine Run.mix 5 (fun j => if j = 2 then 3 else 5) (fun _ => []) (fun i v Lp => match i with
      | 0 => v = .agg #[.int .i64 now, .int .i64 order, .slice A5 (cv3 l).length c5]
      | 1 => v = .agg #[.int .i64 now, .int .i64 order, .slice A l.length c]
      | 2 => ∃ A' c', v = .agg #[.int .i64 now, .int .i64 order, .slice A' (cv3 l).length c'] ∧ Lp = [Rw o54 54 (.slice A' (cv3 l).length c') (cv3 l)]
      | 3 => v = .bool true
      | _ => v = .bool false)
      [Bk g5 [.int .i64 now, .int .i64 order, .slice A5 (cv3 l).length c5] 29, Rw o54 54 (.slice A5 (cv3 l).length c5) (cv3 l), Bk g1 [.int .i64 now, .int .i64 order, .slice A l.length c] 24] H8 (by kernel_rfl) rfl (by kernel_rfl) (by kernel_rfl) ?_ ?_
    · intro i hi
      match i, hi with
      | 0, _ => exact ⟨_, rfl, fun τ' w' Lp Rest hfr hq HS => ⟨fun _ => opStep.val (r_loadK (vs := [.int .i64 now, .int .i64 order, .slice A5 (cv3 l).length c5]) rfl (hfr 5 (by kernel_rfl)) Try.isAgg29 Try.sizeOf29 rfl (HS.cells p0)) ⟨[], rfl, HS⟩, fun h => nomatch h⟩⟩
      | 1, _ => exact ⟨_, rfl, fun τ' w' Lp Rest hfr hq HS => ⟨fun _ => opStep.val (r_loadK (vs := [.int .i64 now, .int .i64 order, .slice A l.length c]) rfl (hfr 1 (by kernel_rfl)) Try.isAgg24 Try.sizeOf24 rfl (HS.cells p2)) ⟨[], rfl, HS⟩, fun h => nomatch h⟩⟩
      | 2, _ =>
        refine ⟨_, rfl, fun τ' w' Lp Rest hfr hq HS => ⟨fun _ => ?_, fun h => nomatch h⟩⟩
        have h23 : τ' 23 = .agg #[.int .i64 now, .int .i64 order, .slice A l.length c] := hq 1 (by kernel_rfl)
        refine opStep.call (r_call rfl rfl (args1 h23) Try.call12) (Calls.use HS .n (toWheel_tri now order A c l w' (Kd.C_below hr HS.below) hs)) ?_
        rintro e w'' ⟨LQ, ⟨A', c', rfl, rfl⟩, H2⟩
        exact ⟨_, rfl, _, ⟨A', c', rfl, rfl⟩, St.into H2⟩
      | 3, _ =>
        refine ⟨_, rfl, fun τ' w' Lp Rest hfr hq HS => ⟨fun _ => ?_, fun h => nomatch h⟩⟩
        have h22 : τ' 22 = .agg #[.int .i64 now, .int .i64 order, .slice A5 (cv3 l).length c5] := hq 0 (by kernel_rfl)
        obtain ⟨A', c', h24, hLp⟩ : ∃ A' c', τ' 24 = .agg #[.int .i64 now, .int .i64 order, .slice A' (cv3 l).length c'] ∧ Lp 2 = [Rw o54 54 (.slice A' (cv3 l).length c') (cv3 l)] := hq 2 (by kernel_rfl)
        have HS2 : St w Em ([Bk g5 [.int .i64 now, .int .i64 order, .slice A5 (cv3 l).length c5] 29, Rw o54 54 (.slice A5 (cv3 l).length c5) (cv3 l), Bk g1 [.int .i64 now, .int .i64 order, .slice A l.length c] 24] ++ (Lp 2 ++ []) ++ Rest) w' := HS
        rw [hLp] at HS2
        refine opStep.call (r_call rfl rfl (args2 h22 h24) Try.call14) (eqWheel_calls now order A5 c5 A' c' (cv3 l) w' (HS2.rdC p1) (HS2.rdC p3)) ?_
        rintro e w'' ⟨rfl, hb⟩
        exact ⟨_, rfl, _, rfl, HS2.step hb⟩
      | 4, _ => exact ⟨_, rfl, fun τ' w' Lp Rest hfr hq HS => ⟨fun _ => opStep.val (r_not rfl (show τ' 25 = .bool true from hq 3 (by kernel_rfl)) rfl) ⟨[], rfl, HS⟩, fun h => nomatch h⟩⟩
    · intro τ' w9 Lp hQ hfr HS
      have h26 : τ' 26 = .bool false := hQ 4 (by decide)
      refine (WO.done ?_ : WO _ _ _ _ _ _ [] _ _)
      refine Run.condF h26 (Run.skip (Run.seq (Run.regionL [0] rfl ?_)))
      refine WO.v 2 rfl rfl (r_assignB rfl rfl) ?_
      exact WO.done (Run.ret1 (v1 := .bool true) Try.func3 Try.results3 rfl ⟨rfl, HS.below⟩)
end Go.Proofs.Ytojpimpfpjhflaa.Wh
