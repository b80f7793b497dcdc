/- The wheel: FnExactWheelOK's argument, opened, and its walk as the row asks for it. -/
import Derived.Test.YtojpimpfpjhflaaLawOK
namespace Go.Proofs.Ytojpimpfpjhflaa.Wh
open Go.RowKit Go.Proofs.Ytojpimpfpjhflaa.Fw Go.Proofs.YtojpimpfpjhflaaW.PrintWords Go.Proofs.Ytojpimpfpjhflaa.PFnExactWheelOK
set_option linter.unusedVariables false
set_option linter.unusedSimpArgs false
def kd24 : Kd (Int × Int × List (List (List S111))) := Kd.pair (Kd.int .i64) (Kd.pair (Kd.int .i64) (Kd.slice 87 (Kd.slice 100 (Kd.slice 111 k111))))
theorem opens111 : Opens Try.prog 111 k111 :=
  opens_iso (fun v => ⟨v.1, v.2.1, v.2.2⟩) (fun _ => rfl) (opens_struct (fs := _) Try.underlying111 (by kernel_rfl) (opensFs_cons rfl (by kernel_rfl) (opens_int Try.underlying3) (opensFs_cons rfl (by kernel_rfl) (opens_int Try.underlying3) (opensFs_one rfl (by kernel_rfl) (opens_int Try.underlying3)))))
theorem opens22 : Opens Try.prog 22 (Kd.slice 87 (Kd.slice 100 (Kd.slice 111 k111))) :=
  opens_slice Try.underlying22 (opens_slice Try.underlying87 (opens_slice Try.underlying100 opens111 (by kernel_rfl)) (by kernel_rfl)) (by kernel_rfl)
theorem opens24 : Opens Try.prog 24 kd24 :=
  opens_struct (fs := _) Try.underlying24 (by kernel_rfl) (opensFs_cons rfl (by kernel_rfl) (opens_int Try.underlying3) (opensFs_cons rfl (by kernel_rfl) (opens_int Try.underlying3) (opensFs_one rfl (by kernel_rfl) opens22)))
theorem fnExactWheelOK_walk (w : World) {x : Int × Int × List (List (List S111))} {cs : List Value} (h : kd24.K w x cs) : Calls Try.prog 3 #[.agg ⟨cs⟩] w fun e w' => e = .returned (.bool true) ∧ Below w.heap.size w w' := by
  obtain ⟨_, _, rfl, rfl, _, _, rfl, rfl, A, c, rfl, hc, hr⟩ := h
  exact lawOK_calls x.1 x.2.1 A c x.2.2 w hr hc
end Go.Proofs.Ytojpimpfpjhflaa.Wh
