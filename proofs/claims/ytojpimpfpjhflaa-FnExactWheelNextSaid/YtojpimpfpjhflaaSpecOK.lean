/- The wheel: what the reference's WheelOK says (over its printed form). -/
import Derived.Test.YtojpimpfpjhflaaPFnExactWheelOKx2
import Derived.Test.YtojpimpfpjhflaaEv
import Derived.Test.YtojpimpfpjhflaaUwp
namespace Go.Proofs.Ytojpimpfpjhflaa.Wh
open Go.RowKit Go.Proofs.Ytojpimpfpjhflaa.Fw Go.Proofs.YtojpimpfpjhflaaW.PrintWords Go.Proofs.Ytojpimpfpjhflaa.PFnExactWheelOK
set_option linter.unusedVariables false
set_option linter.unusedSimpArgs false

theorem in_f (a b c : Int) : spec_l01In.f a b c = some (decide (b ≤ a ∧ a ≤ c)) := by
  unfold spec_l01In.f
  by_cases h : a ≥ b
  · rw [if_pos h]
    congr 1
    exact decide_eq_decide.2 ⟨fun h2 => ⟨h, h2⟩, fun h2 => h2.2⟩
  · rw [if_neg h]
    congr 1
    exact (decide_eq_false (fun h2 => h h2.1)).symm
theorem tdiv_w {a b : Int} (h0 : 0 ≤ a) (h1 : a ≤ 2000000) (hb : 0 < b) : wrap64 (Int.tdiv a b) = a / b := by
  rw [Int.tdiv_eq_ediv_of_nonneg h0]
  have h2 : 0 ≤ a / b := Int.ediv_nonneg h0 (by omega)
  have h3 : a / b ≤ a := Int.ediv_le_self b h0
  exact wrap64_in (by omega) (by omega)
theorem where_f (now at_ : Int) (h0 : 0 ≤ now) (h1 : now ≤ 1000000) (h2 : 0 ≤ at_) (h3 : at_ ≤ 1000500) : Evt (fun k => spec_l11Where.f k now at_) (placeP at_ now) := by
  have e8 : wrap64 ((1 : Int) * 8) = 8 := by unfold wrap64; omega
  have e64 : wrap64 ((8 : Int) * 8) = 64 := by unfold wrap64; omega
  have e01 : wrap64 ((0 : Int) + 1) = 1 := by unfold wrap64; omega
  have e12 : wrap64 ((1 : Int) + 1) = 2 := by unfold wrap64; omega
  have a8 : (0 : Int) ≤ at_ / 8 := Int.ediv_nonneg h2 (by omega)
  have a64 : (0 : Int) ≤ at_ / 64 := Int.ediv_nonneg h2 (by omega)
  unfold spec_l11Where.f placeP
  by_cases c1 : at_ / 8 = now / 8
  · rw [if_pos c1]
    refine Evt.succ (h := fun _ => some (0, at_ % 8)) (fun k => ?_) (.const _)
    rw [spec_l11Where.l0, if_pos (by decide), e8, if_neg (by decide), tdiv_w h2 (by omega) (by decide), tdiv_w h0 (by omega) (by decide), if_pos c1, if_neg (by decide), tdiv_w h2 (by omega) (by decide), Int.ediv_one, Int.tmod_eq_emod_of_nonneg h2]
  · rw [if_neg c1]
    refine Evt.succ (h := fun k => spec_l11Where.l0 k now at_ 8 1) (fun k => ?_) ?_
    · rw [spec_l11Where.l0, if_pos (by decide), e8, if_neg (by decide), tdiv_w h2 (by omega) (by decide), tdiv_w h0 (by omega) (by decide), if_neg c1, e01]
    by_cases c2 : at_ / 64 = now / 64
    · rw [if_pos c2]
      refine Evt.succ (h := fun _ => some (1, at_ / 8 % 8)) (fun k => ?_) (.const _)
      rw [spec_l11Where.l0, if_pos (by decide), e64, if_neg (by decide), tdiv_w h2 (by omega) (by decide), tdiv_w h0 (by omega) (by decide), if_pos c2, if_neg (by decide), tdiv_w h2 (by omega) (by decide), Int.tmod_eq_emod_of_nonneg a8]
    · rw [if_neg c2]
      refine Evt.succ (h := fun k => spec_l11Where.l0 k now at_ 64 2) (fun k => ?_) ?_
      · rw [spec_l11Where.l0, if_pos (by decide), e64, if_neg (by decide), tdiv_w h2 (by omega) (by decide), tdiv_w h0 (by omega) (by decide), if_neg c2, e12]
      refine Evt.succ (h := fun _ => some (2, at_ / 64 % 8)) (fun k => ?_) (.const _)
      rw [spec_l11Where.l0, if_neg (by decide), if_neg (by decide), tdiv_w h2 (by omega) (by decide), Int.tmod_eq_emod_of_nonneg a64]
/-- A timer of one number, or one order, among some. -/
def twinB (seen : List S57) (x : S57) : Bool := seen.any fun y => decide (y.f0 = x.f0) || decide (y.f2 = x.f2)
theorem twin_f (seen : List S57) (x : S57) (hs : seen.length ≤ 1048576) : Evt (fun k => spec_l11Twin.f k seen x.f0 x.f1 x.f2) (twinB seen x) := by
  have key : ∀ d i : Nat, i + d = seen.length → Evt (fun k => spec_l11Twin.l0 k seen i x.f0 x.f1 x.f2) (twinB (seen.drop i) x) := by
    intro d
    induction d with
    | zero =>
      intro i hi
      refine Evt.succ (h := fun _ => some (twinB (seen.drop i) x)) (fun k => ?_) (.const _)
      rw [spec_l11Twin.l0, if_neg (by omega), List.drop_eq_nil_of_le (by omega)]
      rfl
    | succ d ih =>
      intro i hi
      have hd := drop_getD seen i z57 (by omega)
      have hr : rd_T57 seen (i : Int) = seen.getD i z57 := by unfold rd_T57; rw [Int.toNat_natCast]
      by_cases c0 : (seen.getD i z57).f0 = x.f0
      · refine Evt.succ (h := fun _ => some true) (fun k => ?_) ?_
        · rw [spec_l11Twin.l0, if_pos (by omega), if_pos (by omega), hr, if_pos c0]
        · rw [hd, twinB, List.any_cons, decide_eq_true c0]
          exact .const _
      · by_cases c2 : (seen.getD i z57).f2 = x.f2
        · refine Evt.succ (h := fun _ => some true) (fun k => ?_) ?_
          · rw [spec_l11Twin.l0, if_pos (by omega), if_pos (by omega), hr, if_neg c0, if_pos c2]
          · rw [hd, twinB, List.any_cons, decide_eq_true c2, Bool.or_true]
            exact .const _
        · refine Evt.succ (h := fun k => spec_l11Twin.l0 k seen ((i + 1 : Nat) : Int) x.f0 x.f1 x.f2) (fun k => ?_) ?_
          · rw [spec_l11Twin.l0, if_pos (by omega), if_pos (by omega), hr, if_neg c0, if_neg c2, wrap64_in (by omega) (by omega)]
            rfl
          · have := ih (i + 1) (by omega)
            rw [hd, twinB, List.any_cons, decide_eq_false c0, decide_eq_false c2, Bool.or_false, Bool.false_or]
            exact this
  exact key seen.length 0 (by omega)
/-- None of xs is a twin of one that stands ahead of it. -/
def chk : List S57 → List S57 → Bool
  | _, [] => true
  | seen, x :: xs => !twinB seen x && chk (seen ++ [x]) xs
theorem chk_app : ∀ (seen a b : List S57), chk seen (a ++ b) = (chk seen a && chk (seen ++ a) b)
  | seen, [], b => by simp [chk]
  | seen, x :: a, b => by simp only [List.cons_append, chk, chk_app (seen ++ [x]) a b, List.append_assoc, List.singleton_append, List.nil_append, Bool.and_assoc]
theorem twinB_iff (seen : List S57) (x : S57) : twinB seen x = false ↔ x.f0 ∉ seen.map (·.f0) ∧ x.f2 ∉ seen.map (·.f2) := by
  simp only [twinB, List.any_eq_false, Bool.or_eq_true, decide_eq_true_eq, not_or, List.mem_map, not_exists, not_and]
  exact ⟨fun h => ⟨fun y hy => (h y hy).1, fun y hy => (h y hy).2⟩, fun h y hy => ⟨h.1 y hy, h.2 y hy⟩⟩
theorem chk_iff : ∀ (seen xs : List S57), (seen.map (·.f0)).Nodup → (seen.map (·.f2)).Nodup → (chk seen xs = true ↔ ((seen ++ xs).map (·.f0)).Nodup ∧ ((seen ++ xs).map (·.f2)).Nodup)
  | seen, [], h1, h2 => by simp [chk, h1, h2]
  | seen, x :: xs, h1, h2 => by
    have e : seen ++ x :: xs = (seen ++ [x]) ++ xs := by simp
    rw [e]
    simp only [chk, Bool.and_eq_true, Bool.not_eq_true']
    by_cases ht : twinB seen x = false
    · obtain ⟨t1, t2⟩ := (twinB_iff seen x).1 ht
      have n1 : ((seen ++ [x]).map (·.f0)).Nodup := by
        rw [List.map_append, List.nodup_append]
        exact ⟨h1, by simp, fun a ha b hb => by simp at hb; subst hb; exact fun e => t1 (e ▸ ha)⟩
      have n2 : ((seen ++ [x]).map (·.f2)).Nodup := by
        rw [List.map_append, List.nodup_append]
        exact ⟨h2, by simp, fun a ha b hb => by simp at hb; subst hb; exact fun e => t2 (e ▸ ha)⟩
      rw [← chk_iff (seen ++ [x]) xs n1 n2]
      simp [ht]
    · constructor
      · rintro ⟨h, _⟩; exact absurd h ht
      · rintro ⟨a, b⟩
        refine absurd ((twinB_iff seen x).2 ⟨fun hm => ?_, fun hm => ?_⟩) ht
        · rw [List.map_append, List.map_append, List.nodup_append, List.nodup_append] at a
          exact a.1.2.2 _ hm _ (by simp) rfl
        · rw [List.map_append, List.map_append, List.nodup_append, List.nodup_append] at b
          exact b.1.2.2 _ hm _ (by simp) rfl

section
variable (now order : Int) (lv : List (List (List S57)))
variable (hn0 : 0 ≤ now) (hn1 : now ≤ 1000000)
theorem rd5 (xs : List (List S57)) (i : Nat) : rd_L5 xs (i : Int) = xs.getD i [] := by unfold rd_L5; rw [Int.toNat_natCast]
theorem rd6 (xs : List (List (List S57))) (i : Nat) : rd_L6 xs (i : Int) = xs.getD i [] := by unfold rd_L6; rw [Int.toNat_natCast]
theorem rdT (xs : List S57) (i : Nat) : rd_T57 xs (i : Int) = xs.getD i z57 := by unfold rd_T57; rw [Int.toNat_natCast]
include hn0 hn1 in
theorem l2_spec (l s : Nat) (list : List S57) (hl : list.length ≤ 1048576) : ∀ d i : Nat, i + d = list.length → ∀ (seen : List S57) (p : Int), seen.length + d ≤ 1048576 → 0 ≤ p → (i = 0 → p = 0) → (0 < i → p = (list.getD (i - 1) z57).f2) →
    ((slotB now order l s p (list.drop i) = true ∧ chk seen (list.drop i) = true) → ∀ r, Evt (fun k => spec_WheelOK.l1 k (seen ++ list.drop i) l ((s : Int) + 1) now order lv) r → s < 8 → Evt (fun k => spec_WheelOK.l2 k seen l s list i now order lv) r) ∧
    (¬ (slotB now order l s p (list.drop i) = true ∧ chk seen (list.drop i) = true) → Evt (fun k => spec_WheelOK.l2 k seen l s list i now order lv) false) := by
  intro d
  induction d with
  | zero =>
    intro i hi seen p hse hp hp0 hp1
    rw [List.drop_eq_nil_of_le (by omega)]
    refine ⟨fun _ r hr hs => Evt.succ (h := fun k => spec_WheelOK.l1 k (seen ++ []) l ((s : Int) + 1) now order lv) (fun k => ?_) hr, fun h => absurd ⟨rfl, rfl⟩ h⟩
    rw [spec_WheelOK.l2, if_neg (by omega), List.append_nil, wrap64_in (by omega) (by omega)]
  | succ d ih =>
    intro i hi seen p hse hp hp0 hp1
    have hd := drop_getD list i z57 (by omega)
    generalize hx : list.getD i z57 = x at hd
    have hrx : rd_T57 list (i : Int) = x := by rw [rdT, hx]
    -- the timer by itself
    have hbad : ∀ K : Prop, True := fun _ => trivial
    have j4T : Evt (fun k => spec_WheelOK.j4 k seen l s list i true now order lv x.f0 x.f1 x.f2) false := Evt.succ (h := fun _ => some false) (fun k => by rw [spec_WheelOK.j4, if_pos rfl]) (.const _)
    by_cases c1 : now + 1 ≤ x.f1 ∧ x.f1 ≤ now + 500
    · by_cases c2 : 1 ≤ x.f2 ∧ x.f2 ≤ order
      · -- the last test of j4's
        have step : Evt (fun k => spec_WheelOK.l2 k seen l s list i now order lv) = Evt (fun k => spec_WheelOK.l2 k seen l s list i now order lv) := rfl
        have hcond : ∃ bad : Bool, (bad = true ↔ ¬ (p + 1 ≤ x.f2)) ∧ ∀ k, spec_WheelOK.l2 (k + 1) seen l s list i now order lv = spec_WheelOK.j4 k seen l s list i bad now order lv x.f0 x.f1 x.f2 := by
          by_cases h0 : 0 < i
          · refine ⟨decide ((list.getD (i - 1) z57).f2 ≥ x.f2), ?_, fun k => ?_⟩
            · rw [← hp1 h0]
              simp only [decide_eq_true_eq]
              omega
            · rw [spec_WheelOK.l2, if_pos (by omega), if_pos (by omega), hrx, in_f, Option.bind_some, wrap64_in (a := now + 1) (by omega) (by omega), wrap64_in (a := now + 500) (by omega) (by omega), decide_eq_true c1, if_pos rfl, in_f, Option.bind_some, decide_eq_true c2, if_pos rfl, if_pos (by omega),
                wrap64_in (a := (i : Int) - 1) (by omega) (by omega), if_pos (by omega), if_pos (by omega), show ((i : Int) - 1) = ((i - 1 : Nat) : Int) by omega, rdT]
          · refine ⟨false, ?_, fun k => ?_⟩
            · rw [hp0 (by omega)]
              exact ⟨fun h => Bool.noConfusion h, fun h => absurd (by omega) h⟩
            · rw [spec_WheelOK.l2, if_pos (by omega), if_pos (by omega), hrx, in_f, Option.bind_some, wrap64_in (a := now + 1) (by omega) (by omega), wrap64_in (a := now + 500) (by omega) (by omega), decide_eq_true c1, if_pos rfl, in_f, Option.bind_some, decide_eq_true c2, if_pos rfl, if_neg (by omega)]
        obtain ⟨bad, hb, hst⟩ := hcond
        by_cases c3 : p + 1 ≤ x.f2
        · have hbf : bad = false := by
            cases bad with
            | false => rfl
            | true => exact absurd c3 (hb.1 rfl)
          subst hbf
          have hw := where_f now x.f1 hn0 hn1 (by omega) (by omega)
          have ht := twin_f seen x (by omega)
          by_cases c4 : (placeP x.f1 now).1 = l ∧ (placeP x.f1 now).2 = s
          · cases c5 : twinB seen x with
            | true =>
              refine ⟨fun h => ?_, fun _ => ?_⟩
              · rw [hd] at h
                simp [chk, c5] at h
              · refine Evt.succ hst (Evt.succ (h := fun k => (spec_l11Where.f k now x.f1).bind fun bt124 => (if bt124.1 = (l : Int) then (if bt124.2 = (s : Int) then ((spec_l11Twin.f k seen x.f0 x.f1 x.f2).bind fun t126 => (if t126 = true then (some false) else (if seen.length < 5864062014805 then (spec_WheelOK.l2 k (seen ++ [(⟨x.f0, x.f1, x.f2⟩ : S57)]) l s list (wrap64 ((i : Int) + 1)) now order lv) else (none)))) else (some false)) else (some false))) (fun k => by rw [spec_WheelOK.j4, if_neg (by decide)]) (Evt.bind hw ?_))
                refine Evt.congr (fun k => by rw [if_pos c4.1, if_pos c4.2]) (Evt.bind (g := fun k t126 => (if t126 = true then (some false) else (if seen.length < 5864062014805 then (spec_WheelOK.l2 k (seen ++ [(⟨x.f0, x.f1, x.f2⟩ : S57)]) l s list (wrap64 ((i : Int) + 1)) now order lv) else (none)))) (c5 ▸ ht) ?_)
                exact .now fun k => rfl
            | false =>
              obtain ⟨ih1, ih2⟩ := ih (i + 1) (by omega) (seen ++ [x]) x.f2 (by simp; omega) (by omega) (by omega) (fun _ => by rw [Nat.add_sub_cancel, hx])
              have hs1 : slotB now order l s p (list.drop i) = slotB now order l s x.f2 (list.drop (i + 1)) := by
                rw [hd]
                simp only [slotB]
                rw [if_pos ⟨c1, ⟨c3, c2.2⟩, c4.1, c4.2⟩]
              have hc1 : chk seen (list.drop i) = chk (seen ++ [x]) (list.drop (i + 1)) := by rw [hd]; simp [chk, c5]
              have go : ∀ r, Evt (fun k => spec_WheelOK.l2 k (seen ++ [x]) l s list ((i + 1 : Nat) : Int) now order lv) r → Evt (fun k => spec_WheelOK.l2 k seen l s list i now order lv) r := fun r hr => by
                refine Evt.succ hst (Evt.succ (h := fun k => (spec_l11Where.f k now x.f1).bind fun bt124 => (if bt124.1 = (l : Int) then (if bt124.2 = (s : Int) then ((spec_l11Twin.f k seen x.f0 x.f1 x.f2).bind fun t126 => (if t126 = true then (some false) else (if seen.length < 5864062014805 then (spec_WheelOK.l2 k (seen ++ [(⟨x.f0, x.f1, x.f2⟩ : S57)]) l s list (wrap64 ((i : Int) + 1)) now order lv) else (none)))) else (some false)) else (some false))) (fun k => by rw [spec_WheelOK.j4, if_neg (by decide)]) (Evt.bind hw ?_))
                refine Evt.congr (fun k => by rw [if_pos c4.1, if_pos c4.2]) (Evt.bind (g := fun k t126 => (if t126 = true then (some false) else (if seen.length < 5864062014805 then (spec_WheelOK.l2 k (seen ++ [(⟨x.f0, x.f1, x.f2⟩ : S57)]) l s list (wrap64 ((i : Int) + 1)) now order lv) else (none)))) (c5 ▸ ht) ?_)
                refine Evt.congr (fun k => ?_) hr
                rw [if_neg (by decide), if_pos (by omega), wrap64_in (by omega) (by omega)]
                rfl
              rw [hs1, hc1]
              refine ⟨fun h r hr hs => go r (ih1 h r ?_ hs), fun h => go false (ih2 h)⟩
              rw [hd] at hr
              simpa using hr
          · refine ⟨fun h => ?_, fun _ => ?_⟩
            · rw [hd] at h
              simp only [slotB] at h
              rw [if_neg (fun h => c4 h.2.2)] at h
              exact absurd h.1 (by decide)
            · refine Evt.succ hst (Evt.succ (h := fun k => (spec_l11Where.f k now x.f1).bind fun bt124 => (if bt124.1 = (l : Int) then (if bt124.2 = (s : Int) then ((spec_l11Twin.f k seen x.f0 x.f1 x.f2).bind fun t126 => (if t126 = true then (some false) else (if seen.length < 5864062014805 then (spec_WheelOK.l2 k (seen ++ [(⟨x.f0, x.f1, x.f2⟩ : S57)]) l s list (wrap64 ((i : Int) + 1)) now order lv) else (none)))) else (some false)) else (some false))) (fun k => by rw [spec_WheelOK.j4, if_neg (by decide)]) (Evt.bind hw ?_))
              refine .now fun k => ?_
              by_cases c6 : (placeP x.f1 now).1 = (l : Int)
              · rw [if_pos c6, if_neg (fun h => c4 ⟨c6, h⟩)]
              · rw [if_neg c6]
        · have hbt : bad = true := hb.2 c3
          subst hbt
          refine ⟨fun h => ?_, fun _ => Evt.succ hst j4T⟩
          rw [hd] at h
          simp only [slotB] at h
          rw [if_neg (fun h => c3 h.2.1.1)] at h
          exact absurd h.1 (by decide)
      · refine ⟨fun h => ?_, fun _ => Evt.succ (fun k => ?_) j4T⟩
        · rw [hd] at h
          simp only [slotB] at h
          rw [if_neg (fun h => c2 ⟨by omega, h.2.1.2⟩)] at h
          exact absurd h.1 (by decide)
        · rw [spec_WheelOK.l2, if_pos (by omega), if_pos (by omega), hrx, in_f, Option.bind_some, wrap64_in (a := now + 1) (by omega) (by omega), wrap64_in (a := now + 500) (by omega) (by omega), decide_eq_true c1, if_pos rfl, in_f, Option.bind_some, decide_eq_false c2, if_neg (by decide)]
    · refine ⟨fun h => ?_, fun _ => Evt.succ (fun k => ?_) j4T⟩
      · rw [hd] at h
        simp only [slotB] at h
        rw [if_neg (fun h => c1 h.1)] at h
        exact absurd h.1 (by decide)
      · rw [spec_WheelOK.l2, if_pos (by omega), if_pos (by omega), hrx, in_f, Option.bind_some, wrap64_in (a := now + 1) (by omega) (by omega), wrap64_in (a := now + 500) (by omega) (by omega), decide_eq_false c1, if_neg (by decide)]
include hn0 hn1 in
theorem l1_spec (l : Nat) (X : List (List S57)) (hX : lv.getD l [] = X) (hl : l < 3) (hl3 : lv.length = 3) (h8 : X.length = 8) (hbig : ∀ s, s < 8 → (X.getD s []).length ≤ 1048576) : ∀ d s : Nat, s + d = 8 → ∀ seen : List S57, seen.length + (X.drop s).flatten.length ≤ 1048576 →
    (((∀ s' : Nat, s ≤ s' → s' < 8 → slotB now order l s' 0 (X.getD s' []) = true) ∧ chk seen (X.drop s).flatten = true) → ∀ r, Evt (fun k => spec_WheelOK.l0 k (seen ++ (X.drop s).flatten) ((l : Int) + 1) now order lv) r → Evt (fun k => spec_WheelOK.l1 k seen l s now order lv) r) ∧
    (¬ ((∀ s' : Nat, s ≤ s' → s' < 8 → slotB now order l s' 0 (X.getD s' []) = true) ∧ chk seen (X.drop s).flatten = true) → Evt (fun k => spec_WheelOK.l1 k seen l s now order lv) false) := by
  intro d
  induction d with
  | zero =>
    intro s hs seen hse
    rw [List.drop_eq_nil_of_le (by omega)]
    refine ⟨fun _ r hr => Evt.succ (h := fun k => spec_WheelOK.l0 k (seen ++ [].flatten) ((l : Int) + 1) now order lv) (fun k => ?_) hr, fun h => absurd ⟨fun s' h1 h2 => by omega, rfl⟩ h⟩
    rw [spec_WheelOK.l1, if_neg (by omega), wrap64_in (by omega) (by omega)]
    simp
  | succ d ih =>
    intro s hs seen hse
    have hd := drop_getD X s [] (by omega)
    have hfl : (X.drop s).flatten = X.getD s [] ++ (X.drop (s + 1)).flatten := by rw [hd, List.flatten_cons]
    rw [hfl, List.length_append] at hse
    obtain ⟨i1, i2⟩ := ih (s + 1) (by omega) (seen ++ X.getD s []) (by rw [List.length_append]; omega)
    obtain ⟨j1, j2⟩ := l2_spec now order lv hn0 hn1 l s (X.getD s []) (hbig s (by omega)) (X.getD s []).length 0 (by omega) seen 0 (by omega) (by omega) (fun _ => rfl) (fun h => absurd h (Nat.lt_irrefl 0))
    rw [List.drop_zero] at j1 j2
    have st : ∀ k, spec_WheelOK.l1 (k + 1) seen l s now order lv = spec_WheelOK.l2 k seen l s (X.getD s []) ((0 : Nat) : Int) now order lv := fun k => by
      rw [spec_WheelOK.l1, if_pos (by omega), if_pos (by omega), if_pos (by omega), if_pos (by omega), rd6, hX, if_pos (by omega), rd5]
      rfl
    rw [hfl, chk_app]
    by_cases c : slotB now order l s 0 (X.getD s []) = true ∧ chk seen (X.getD s []) = true
    · have fwd : ∀ r, Evt (fun k => spec_WheelOK.l1 k (seen ++ X.getD s []) l ((s + 1 : Nat) : Int) now order lv) r → Evt (fun k => spec_WheelOK.l1 k seen l s now order lv) r := fun r hr => Evt.succ st (j1 c r (by simpa using hr) (by omega))
      refine ⟨fun h r hr => fwd r (i1 ⟨fun s' a b => h.1 s' (by omega) b, ?_⟩ r (by simpa using hr)), fun h => fwd false (i2 fun h2 => h ⟨fun s' a b => ?_, ?_⟩)⟩
      · have := h.2
        rw [Bool.and_eq_true] at this
        exact this.2
      · by_cases e : s' = s
        · rw [e]; exact c.1
        · exact h2.1 s' (by omega) b
      · rw [c.2, h2.2]; rfl
    · refine ⟨fun h => absurd ⟨h.1 s (Nat.le_refl _) (by omega), ?_⟩ c, fun _ => Evt.succ st (j2 c)⟩
      have := h.2
      rw [Bool.and_eq_true] at this
      exact this.1
def RestOK (seen : List S57) (l : Nat) : Prop := (∀ l', l ≤ l' → l' < 3 → levelB now order l' (lv.getD l' [])) ∧ chk seen (lv.drop l).flatten.flatten = true ∧ (seen ++ (lv.drop l).flatten.flatten).length ≤ 60
theorem mem_len (l s : Nat) : ((lv.getD l []).getD s []).length ≤ lv.flatten.flatten.length := by
  by_cases hl : l < lv.length
  · by_cases hs : s < (lv.getD l []).length
    · have h1 := take_flat lv l hl
      have h2 := take_flat (lv.getD l []) s hs
      have h3 : (lv.take (l + 1)).flatten.flatten.length ≤ lv.flatten.flatten.length := by
        conv => rhs; rw [← List.take_append_drop (l + 1) lv, List.flatten_append, List.flatten_append, List.length_append]
        omega
      have h4 := flat_le (lv.getD l []) (s + 1)
      rw [h2, List.length_append] at h4
      rw [h1, List.flatten_append, List.length_append] at h3
      omega
    · rw [List.getD_eq_getElem?_getD, List.getElem?_eq_none (by omega)]; simp
  · rw [show lv.getD l [] = [] by rw [List.getD_eq_getElem?_getD, List.getElem?_eq_none (by omega)]; rfl]; simp
include hn0 hn1 in
theorem l0_spec (hl3 : lv.length = 3) (hbig : lv.flatten.flatten.length ≤ 1048576) : ∀ d l : Nat, l + d = 3 → ∀ seen : List S57, seen.length + (lv.drop l).flatten.flatten.length ≤ 1048576 →
    (RestOK now order lv seen l → Evt (fun k => spec_WheelOK.l0 k seen l now order lv) true) ∧ (¬ RestOK now order lv seen l → Evt (fun k => spec_WheelOK.l0 k seen l now order lv) false) := by
  intro d
  induction d with
  | zero =>
    intro l hl seen hse
    have e : lv.drop l = [] := List.drop_eq_nil_of_le (by omega)
    have st : Evt (fun k => spec_WheelOK.l0 k seen l now order lv) (decide ((seen.length : Int) ≤ 60)) := Evt.succ (h := fun _ => some (decide ((seen.length : Int) ≤ 60))) (fun k => by rw [spec_WheelOK.l0, if_neg (by omega)]) (.const _)
    unfold RestOK
    rw [e]
    refine ⟨fun h => ?_, fun h => ?_⟩
    · have := h.2.2
      rw [decide_eq_true (show (seen.length : Int) ≤ 60 by simp at this; omega)] at st
      exact st
    · rw [decide_eq_false (fun h2 => h ⟨fun l' a b => by omega, rfl, by simp; omega⟩)] at st
      exact st
  | succ d ih =>
    intro l hl seen hse
    have hd := drop_getD lv l [] (by omega)
    have hfl : (lv.drop l).flatten.flatten = (lv.getD l []).flatten ++ (lv.drop (l + 1)).flatten.flatten := by rw [hd, List.flatten_cons, List.flatten_append]
    rw [hfl, List.length_append] at hse
    by_cases h8 : (lv.getD l []).length = 8
    · obtain ⟨i1, i2⟩ := ih (l + 1) (by omega) (seen ++ (lv.getD l []).flatten) (by rw [List.length_append]; omega)
      obtain ⟨j1, j2⟩ := l1_spec now order lv hn0 hn1 l (lv.getD l []) rfl (by omega) hl3 h8 (fun s _ => Nat.le_trans (mem_len lv l s) hbig) 8 0 (by omega) seen (by rw [List.drop_zero]; omega)
      rw [List.drop_zero] at j1 j2
      have st : ∀ k, spec_WheelOK.l0 (k + 1) seen l now order lv = spec_WheelOK.l1 k seen l ((0 : Nat) : Int) now order lv := fun k => by
        rw [spec_WheelOK.l0, if_pos (by omega), if_pos (by omega), if_pos (by omega), rd6, if_pos (by omega)]
        rfl
      by_cases c : (∀ s' : Nat, 0 ≤ s' → s' < 8 → slotB now order l s' 0 ((lv.getD l []).getD s' []) = true) ∧ chk seen (lv.getD l []).flatten = true
      · have hR : RestOK now order lv seen l ↔ RestOK now order lv (seen ++ (lv.getD l []).flatten) (l + 1) := by
          unfold RestOK
          rw [hfl, chk_app, c.2, Bool.true_and, List.append_assoc]
          refine ⟨fun h => ⟨fun l' a b => h.1 l' (by omega) b, h.2⟩, fun h => ⟨fun l' a b => ?_, h.2⟩⟩
          by_cases e : l' = l
          · rw [e]; exact ⟨h8, fun s hs => c.1 s (Nat.zero_le _) hs⟩
          · exact h.1 l' (by omega) b
        rw [hR]
        exact ⟨fun h => Evt.succ st (j1 c true (i1 h)), fun h => Evt.succ st (j1 c false (i2 h))⟩
      · refine ⟨fun h => absurd ⟨fun s' _ hs => (h.1 l (Nat.le_refl _) (by omega)).2 s' hs, ?_⟩ c, fun _ => Evt.succ st (j2 c)⟩
        have := h.2.1
        rw [hfl, chk_app, Bool.and_eq_true] at this
        exact this.1
    · refine ⟨fun h => absurd (h.1 l (Nat.le_refl _) (by omega)).1 h8, fun _ => Evt.succ (h := fun _ => some false) (fun k => ?_) (.const _)⟩
      rw [spec_WheelOK.l0, if_pos (by omega), if_pos (by omega), if_pos (by omega), rd6, if_neg (by omega)]
end
/-- The reference's WheelOK: a wheel that is right, or not. -/
theorem spec_ok (now order : Int) (lv : List (List (List S57))) (hbig : lv.flatten.flatten.length ≤ 1048576) : ∃ b, Evt (fun k => spec_WheelOK.f k now order lv) b ∧ (b = true → Good now order lv) ∧ (b = false → ¬ Good now order lv) := by
  have jT : Evt (fun k => spec_WheelOK.j0 k true now order lv) false := Evt.succ (h := fun _ => some false) (fun k => by rw [spec_WheelOK.j0, if_pos rfl]) (.const _)
  by_cases hn : 0 ≤ now ∧ now ≤ 1000000
  · by_cases ho : 0 ≤ order ∧ order ≤ 1000000
    · have st : ∀ k, spec_WheelOK.f k now order lv = spec_WheelOK.j0 k ((lv.length : Int) != 3) now order lv := fun k => by
        unfold spec_WheelOK.f
        rw [in_f, in_f, decide_eq_true hn, decide_eq_true ho]
        rfl
      by_cases h3 : lv.length = 3
      · obtain ⟨a, b⟩ := l0_spec now order lv hn.1 hn.2 h3 hbig 3 0 rfl [] (by simpa using hbig)
        have st2 : ∀ k, spec_WheelOK.j0 (k + 1) ((lv.length : Int) != 3) now order lv = spec_WheelOK.l0 k [] ((0 : Nat) : Int) now order lv := fun k => by
          rw [spec_WheelOK.j0, if_neg (by simp [h3])]
          rfl
        have hG : RestOK now order lv [] 0 ↔ Good now order lv := by
          unfold RestOK
          rw [List.drop_zero, chk_iff [] _ (by simp) (by simp), List.nil_append]
          exact ⟨fun h => ⟨hn.1, hn.2, ho.1, ho.2, h3, fun l hl => h.1 l (Nat.zero_le _) hl, h.2.2, h.2.1.1, h.2.1.2⟩, fun h => ⟨fun l _ hl => h.level l hl, ⟨h.ids, h.orders⟩, h.few⟩⟩
        by_cases hr : RestOK now order lv [] 0
        · exact ⟨true, Evt.congr st (Evt.succ st2 (a hr)), fun _ => hG.1 hr, fun h => Bool.noConfusion h⟩
        · exact ⟨false, Evt.congr st (Evt.succ st2 (b hr)), fun h => Bool.noConfusion h, fun _ h => hr (hG.2 h)⟩
      · refine ⟨false, Evt.congr st ?_, fun h => Bool.noConfusion h, fun _ h => h3 h.three⟩
        have e : ((lv.length : Int) != 3) = true := by simp; omega
        rw [e]
        exact jT
    · refine ⟨false, Evt.congr (fun k => ?_) jT, fun h => Bool.noConfusion h, fun _ h => ho ⟨h.o0, h.o1⟩⟩
      unfold spec_WheelOK.f
      rw [in_f, in_f, decide_eq_true hn, decide_eq_false ho]
      rfl
  · refine ⟨false, Evt.congr (fun k => ?_) jT, fun h => Bool.noConfusion h, fun _ h => hn ⟨h.n0, h.n1⟩⟩
    unfold spec_WheelOK.f
    rw [in_f, decide_eq_false hn]
    rfl
theorem specOK_calls (now order : Int) (A : Option Addr) (c : Nat) (lv : List (List (List S57))) (w : World) (hr : Kd.C (Kd.slice 55 (Kd.slice 57 k57)) w A lv.length lv) (hc : lv.length ≤ c) (hbig : lv.flatten.flatten.length ≤ 1048576) :
    Calls Try.prog 11 #[.agg #[.int .i64 now, .int .i64 order, .slice A lv.length c]] w fun e w' => (∃ b, e = .returned (.bool b) ∧ (b = true → Good now order lv) ∧ (b = false → ¬ Good now order lv)) ∧ Below w.heap.size w w' := by
  obtain ⟨b, he, h1, h0⟩ := spec_ok now order lv hbig
  obtain ⟨k, hk⟩ := he.ex
  exact (spec_WheelOK.calls k now order A c lv b w hr hc hk).mono fun e w' h => ⟨⟨b, h.1, h1, h0⟩, h.2⟩
end Go.Proofs.Ytojpimpfpjhflaa.Wh
