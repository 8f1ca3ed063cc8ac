/-
  Chapter 40: the statement ClaimSmall.
  CONDITIONS: none beyond those of the rows.
-/
import Derived.Test.YtlmoijifgbkapaaPV7
namespace Go.Proofs.Ytlmoijifgbkapaa
open Go.AM Go.AM.Sym Go.RowKit
set_option maxRecDepth 100000
set_option linter.unusedVariables false
set_option linter.unusedSimpArgs false
set_option maxHeartbeats 4000000

theorem law_run (H : zH) (vs : List Value) (x : dens []) (h : RepAll [] H x vs) : CallR (@Fn.E on40.toOA) false H.length 7 vs H fun v _ => v = .bool true := by
  cases h
  have hx := @Fn.ClaimSmall_ok on40
  rw [hx]

theorem law_lifted (os : Os) (started : os.Started) (H : Type) (enc : TypeId × Value → H) :
    ReturnsInHanded {} Try.checked os 7 .any (Rows.claimSmallSpec.pre6 enc Try.prog Try.f7 Rows.claimSmallRow.domain false) (Rows.claimSmallSpec.post enc Try.prog Try.f7 false true false false) :=
  law_returns (C := Try.checked) (E := @Fn.E on40.toOA) (tys := []) own started (by kernel_rfl) Try.func7 rfl
    (fun ds hd => match ds, hd with | [], _ => rfl) rfl (by kernel_rfl) (by kernel_rfl) (of_decide_eq_true (by kernel_rfl)) laidOut okE40
    (ChangeSpec.witness6 (enc := enc) (C := Try.checked) false ⟨#[], #[], []⟩ 8 (by kernel_rfl) (by kernel_rfl) (by kernel_rfl) (by kernel_rfl)) law_run

theorem claimSmall_holds : Rows.ClaimSmallSaid :=
  OpenClaim.holds_of_wide 7 Try.f7 rfl rfl rfl rfl rfl rfl rfl ⟨rfl, rfl, rfl, rfl, rfl⟩ rfl rfl rfl rfl rfl (by kernel_rfl) Try.func7 (by kernel_rfl)
    (of_decide_eq_true (by kernel_rfl)) (by unfold Func.isWrapper; first | (rw [if_pos (by decide +kernel)]; kernel_rfl) | (rw [if_neg (by decide +kernel)]; exact ⟨rfl, rfl⟩))
    (fun os started H enc _ => law_lifted os started H enc)
end Go.Proofs.Ytlmoijifgbkapaa
