/-
  Chapter 39: the statement AnomalySame.
  CONDITIONS: none beyond those of the rows.
-/
import Derived.Test.YtkppjkkkdpcgiaaGreatPA10
namespace Go.Proofs.YtkppjkkkdpcgiaaGreat
open Go.AM Go.AM.Sym Go.RowKit
set_option maxRecDepth 100000
set_option linter.unusedVariables false
set_option linter.unusedSimpArgs false
set_option maxHeartbeats 4000000

theorem law_run (H : NE) (vs : List Value) (x : N8l [.slice Ndz, .slice tFo, .slice tFo, .slice (.int .i8), .int .u8, .int .u16]) (h : Nkc [.slice Ndz, .slice tFo, .slice tFo, .slice (.int .i8), .int .u8, .int .u16] H x vs) : NL (@Fn.E Nt8) false H.length 7 vs H fun v _ => v = .bool true := by
  obtain ⟨v0, _, rfl, g0, v1, _, rfl, g1, v2, _, rfl, g2, v3, _, rfl, g3, v4, _, rfl, g4, v5, _, rfl, g5, rfl⟩ := h
  obtain ⟨p0, k0, u0, rfl, s0, b0, c0, l0⟩ := Nyd g0
  obtain ⟨p1, k1, u1, rfl, s1, b1, c1, l1⟩ := Nh5 g1
  obtain ⟨p2, k2, u2, rfl, s2, b2, c2, l2⟩ := Nh5 g2
  obtain ⟨p3, k3, u3, rfl, s3, b3, l3⟩ := Nq0 g3
  obtain ⟨rfl, b4⟩ := Nsi g4
  obtain ⟨rfl, b5⟩ := Nsi g5
  have hx := @Fn.AnomalySame_ok Nt8
  rw [hx Oba rfl s0 b0 l0 c0 s1 b1 c1 l1 s2 b2 c2 l2 b3 s3 l3 b4 b5]

theorem law_lifted (os : Os) (started : os.Started) (H : Type) (enc : TypeId × Value → H) :
    ReturnsInHanded {} Tryz.checked os 7 .any (Rows.anomalySameSpec.pre6 enc Tryz.prog Tryz.f7 Rows.anomalySameRow.domain false) (Rows.anomalySameSpec.post enc Tryz.prog Tryz.f7 false true false false) :=
  Nmg (C := Tryz.checked) (E := @Fn.E Nt8) (tys := [.slice Ndz, .slice tFo, .slice tFo, .slice (.int .i8), .int .u8, .int .u16]) own started (by kernel_rfl) Tryz.func7 rfl
    (fun ds hd => match ds, hd with | [_, _, _, _, _, _], _ => rfl) rfl (by kernel_rfl) (by kernel_rfl) (of_decide_eq_true (by kernel_rfl)) laidOut Oar
    (ChangeSpec.witness6 (enc := enc) (C := Tryz.checked) false ⟨#[], #[.slice none 0 0, .slice none 0 0, .slice none 0 0, .slice none 0 0, .int .u8 0, .int .u16 0], []⟩ 8 (by kernel_rfl) (by kernel_rfl) (by kernel_rfl) (by kernel_rfl)) law_run

theorem anomalySame_holds : Rows.AnomalySameSaid :=
  OpenClaim.holds_of_wide 7 Tryz.f7 rfl rfl rfl rfl rfl rfl rfl ⟨rfl, rfl, rfl, rfl, rfl⟩ rfl rfl rfl rfl rfl (by kernel_rfl) Tryz.func7 (by kernel_rfl)
    (of_decide_eq_true (by kernel_rfl)) (by unfold Func.isWrapper; first | (rw [if_pos (by decide +kernel)]; kernel_rfl) | (rw [if_neg (by decide +kernel)]; exact ⟨rfl, rfl⟩))
    (fun os started H enc _ => law_lifted os started H enc)
end Go.Proofs.YtkppjkkkdpcgiaaGreat
