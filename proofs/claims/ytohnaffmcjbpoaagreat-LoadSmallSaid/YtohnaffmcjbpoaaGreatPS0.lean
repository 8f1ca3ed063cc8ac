/-
  Chapter 34: the statement LoadSmall.
  CONDITIONS: none beyond those of the rows.
-/
import Derived.Test.YtohnaffmcjbpoaaGreatPS10
namespace Go.Proofs.YtohnaffmcjbpoaaGreat
open Go.AM Go.RowKit
set_option maxRecDepth 100000
set_option linter.unusedVariables false
set_option linter.unusedSimpArgs false
set_option maxHeartbeats 4000000

theorem law_run (H : NB) (vs : List Value) (x : N19 []) (h : Nha [] H x vs) : NR (@Fn.E onL) false H.length 4 vs H fun v _ => v = .bool true := by
  have e : vs = [] := h
  subst e
  have hx := @Fn.LoadSmall_ok onL
  rw [hx rfl]

theorem law_lifted (os : Os) (started : os.Started) (H : Type) (enc : TypeId × Value → H) :
    ReturnsInHanded {} Tryz.checked os 4 .any (Rows.loadSmallSpec.pre6 enc Tryz.prog Tryz.f4 Rows.loadSmallRow.domain false) (Rows.loadSmallSpec.post enc Tryz.prog Tryz.f4 false true false false) :=
  Ni0 (C := Tryz.checked) (E := @Fn.E onL) (tys := []) own started (by kernel_rfl) Tryz.func4 rfl
    (fun ds hd => match ds, hd with | [], _ => rfl) rfl (by kernel_rfl) (by kernel_rfl) (of_decide_eq_true (by kernel_rfl)) laidOut N5f
    (ChangeSpec.witness6 (enc := enc) (C := Tryz.checked) false ⟨#[], #[], []⟩ 8 (by kernel_rfl) (by kernel_rfl) (by kernel_rfl) (by kernel_rfl)) law_run

theorem loadSmall_holds : Rows.LoadSmallSaid :=
  OpenClaim.holds_of_wide 4 Tryz.f4 rfl rfl rfl rfl rfl rfl rfl ⟨rfl, rfl, rfl, rfl, rfl⟩ rfl rfl rfl rfl rfl (by kernel_rfl) Tryz.func4 (by kernel_rfl)
    (of_decide_eq_true (by kernel_rfl)) (by unfold Func.isWrapper; first | (rw [if_pos (by decide +kernel)]; kernel_rfl) | (rw [if_neg (by decide +kernel)]; exact ⟨rfl, rfl⟩))
    (fun os started H enc _ => law_lifted os started H enc)
end Go.Proofs.YtohnaffmcjbpoaaGreat
