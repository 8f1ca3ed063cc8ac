/-
  Chapter 39: the statement AnomalyWrong.
  CONDITIONS: none beyond those of the rows.
-/
import Derived.Test.YtkppjkkkdpcgiaaGreatPD9
namespace Go.Proofs.YtkppjkkkdpcgiaaGreat
open Go.AM Go.AM.Sym Go.RowKit
set_option maxRecDepth 100000
set_option linter.unusedVariables false
set_option linter.unusedSimpArgs false
set_option maxHeartbeats 4000000

theorem law_run (H : NE) (vs : List Value) (x : N7f [.slice Ndm, .slice tFo, .int .i64]) (h : Njr [.slice Ndm, .slice tFo, .int .i64] H x vs) : NL (@Fn.E Nta) false H.length 9 vs H fun v _ => v = .bool true := by
  obtain ⟨v0, _, rfl, g0, v1, _, rfl, g1, v2, _, rfl, g2, rfl⟩ := h
  obtain ⟨p0, k0, u0, rfl, s0, b0, c0, l0⟩ := Nxc g0
  obtain ⟨p1, k1, u1, rfl, s1, b1, c1, l1⟩ := Nuf g1
  obtain ⟨rfl, b2⟩ := N3e g2
  have hx := @Fn.AnomalyWrong_ok Nta
  rw [hx N90 rfl s0 b0 l0 c0 s1 b1 c1 l1 b2]

theorem law_lifted (os : Os) (started : os.Started) (H : Type) (enc : TypeId × Value → H) :
    ReturnsInHanded {} Tryz.checked os 9 .any (Rows.anomalyWrongSpec.pre6 enc Tryz.prog Tryz.f9 Rows.anomalyWrongRow.domain false) (Rows.anomalyWrongSpec.post enc Tryz.prog Tryz.f9 false true false false) :=
  Nlx (C := Tryz.checked) (E := @Fn.E Nta) (tys := [.slice Ndm, .slice tFo, .int .i64]) own started (by kernel_rfl) Tryz.func9 rfl
    (fun ds hd => match ds, hd with | [_, _, _], _ => rfl) rfl (by kernel_rfl) (by kernel_rfl) (of_decide_eq_true (by kernel_rfl)) laidOut N9j
    (ChangeSpec.witness6 (enc := enc) (C := Tryz.checked) false ⟨#[], #[.slice none 0 0, .slice none 0 0, .int .i64 0], []⟩ 8 (by kernel_rfl) (by kernel_rfl) (by kernel_rfl) (by kernel_rfl)) law_run

theorem anomalyWrong_holds : Rows.AnomalyWrongSaid :=
  OpenClaim.holds_of_wide 9 Tryz.f9 rfl rfl rfl rfl rfl rfl rfl ⟨rfl, rfl, rfl, rfl, rfl⟩ rfl rfl rfl rfl rfl (by kernel_rfl) Tryz.func9 (by kernel_rfl)
    (of_decide_eq_true (by kernel_rfl)) (by unfold Func.isWrapper; first | (rw [if_pos (by decide +kernel)]; kernel_rfl) | (rw [if_neg (by decide +kernel)]; exact ⟨rfl, rfl⟩))
    (fun os started H enc _ => law_lifted os started H enc)
end Go.Proofs.YtkppjkkkdpcgiaaGreat
