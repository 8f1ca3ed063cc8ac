/-
  Chapter 40: the statement ClaimTurned.
  CONDITIONS: none beyond those of the rows.
-/
import Derived.Test.YtlmoijifgbkapaaPU9
namespace Go.Proofs.Ytlmoijifgbkapaa
open Go.AM Go.RowKit
set_option maxRecDepth 100000
set_option linter.unusedVariables false
set_option linter.unusedSimpArgs false
set_option maxHeartbeats 4000000

theorem turned_run (H : Heap) (vs : List Value) (x : dens tysLists) (h : RepAll tysLists H x vs) : CallR Fn.E false H.length 9 vs H fun v _ => v = .bool true := by
  obtain ⟨v0, _, rfl, h0, v1, _, rfl, h1, v2, _, rfl, h2, v3, _, rfl, h3, rfl⟩ := h
  obtain ⟨p0, k0, rfl, s0⟩ := slice_arg toStd Fn.encS std_enc h0
  obtain ⟨p1, k1, rfl, s1⟩ := slice_arg toTrm Fn.encT trm_enc h1
  obtain ⟨p2, k2, rfl, s2⟩ := slice_arg toSnt Fn.encN snt_enc h2
  obtain ⟨p3, k3, rfl, s3⟩ := slice_arg toClm Fn.encC clm_enc h3
  rw [Fn.ClaimTurned_ok s0 s1 s2 s3 (Sl.some_of s3)]

theorem turned_lifted (os : Os) (started : os.Started) (H : Type) (enc : TypeId × Value → H) :
    ReturnsInHanded {} Try.checked os 9 .any (Rows.claimTurnedSpec.pre6 enc Try.prog Try.f9 Rows.claimTurnedRow.domain false) (Rows.claimTurnedSpec.post enc Try.prog Try.f9 false true false false) :=
  law_returns (C := Try.checked) (E := Fn.E) (tys := tysLists) own started (by kernel_rfl) Try.func9 rfl
    (fun ds hd => match ds, hd with | [_, _, _, _], _ => rfl) rfl (by kernel_rfl) (by kernel_rfl) (of_decide_eq_true (by kernel_rfl)) laidOut okE
    (ChangeSpec.witness6 (enc := enc) (C := Try.checked) false ⟨#[], #[.slice none 0 0, .slice none 0 0, .slice none 0 0, .slice none 0 0], []⟩ 8 (by kernel_rfl) (by kernel_rfl) (by kernel_rfl) (by kernel_rfl)) turned_run

theorem claimTurned_holds : Rows.ClaimTurnedSaid :=
  OpenClaim.holds_of_wide 9 Try.f9 rfl rfl rfl rfl rfl rfl rfl ⟨rfl, rfl, rfl, rfl, rfl⟩ rfl rfl rfl rfl rfl (by kernel_rfl) Try.func9 (by kernel_rfl)
    (of_decide_eq_true (by kernel_rfl)) (by unfold Func.isWrapper; first | (rw [if_pos (by decide +kernel)]; kernel_rfl) | (rw [if_neg (by decide +kernel)]; exact ⟨rfl, rfl⟩))
    (fun os started H enc _ => turned_lifted os started H enc)
end Go.Proofs.Ytlmoijifgbkapaa
