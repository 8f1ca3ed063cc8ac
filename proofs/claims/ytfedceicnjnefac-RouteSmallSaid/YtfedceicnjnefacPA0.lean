/-
  Chapter 33: the statement RouteSmall.
  CONDITIONS: none beyond those of the rows.
-/
import Derived.Test.YtfedceicnjnefacPA10
namespace Go.Proofs.Ytfedceicnjnefac
open Go.AM Go.RowKit
set_option maxRecDepth 100000
set_option linter.unusedVariables false
set_option linter.unusedSimpArgs false
set_option maxHeartbeats 4000000

theorem law_run (H : Heap) (vs : List Value) (x : dens []) (h : RepAll [] H x vs) : CallR (@Fn.E off) false H.length 3 vs H fun v _ => v = .bool true := by
  have e : vs = [] := h
  subst e
  have hx := @Fn.RouteSmall_ok off
  rw [hx rfl]

theorem law_lifted (os : Os) (started : os.Started) (H : Type) (enc : TypeId × Value → H) :
    ReturnsInHanded {} Try.checked os 3 .any (Rows.routeSmallSpec.pre6 enc Try.prog Try.f3 Rows.routeSmallRow.domain false) (Rows.routeSmallSpec.post enc Try.prog Try.f3 false true false false) :=
  law_returns (C := Try.checked) (E := @Fn.E off) (tys := []) own started (by kernel_rfl) Try.func3 rfl
    (fun ds hd => match ds, hd with | [], _ => rfl) rfl (by kernel_rfl) (by kernel_rfl) (of_decide_eq_true (by kernel_rfl)) laidOut okE
    (ChangeSpec.witness6 (enc := enc) (C := Try.checked) false ⟨#[], #[], []⟩ 8 (by kernel_rfl) (by kernel_rfl) (by kernel_rfl) (by kernel_rfl)) law_run

theorem routeSmall_holds : Rows.RouteSmallSaid :=
  OpenClaim.holds_of_wide 3 Try.f3 rfl rfl rfl rfl rfl rfl rfl ⟨rfl, rfl, rfl, rfl, rfl⟩ rfl rfl rfl rfl rfl (by kernel_rfl) Try.func3 (by kernel_rfl)
    (of_decide_eq_true (by kernel_rfl)) (by unfold Func.isWrapper; first | (rw [if_pos (by decide +kernel)]; kernel_rfl) | (rw [if_neg (by decide +kernel)]; exact ⟨rfl, rfl⟩))
    (fun os started H enc _ => law_lifted os started H enc)
end Go.Proofs.Ytfedceicnjnefac
