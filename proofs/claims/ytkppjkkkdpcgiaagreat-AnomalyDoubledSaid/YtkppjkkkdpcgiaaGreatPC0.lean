/-
  Chapter 39: the statement AnomalyDoubled.
  CONDITIONS: none beyond those of the rows.
-/
import Derived.Test.YtkppjkkkdpcgiaaGreatPC10
namespace Go.Proofs.YtkppjkkkdpcgiaaGreat
open Go.AM Go.AM.Sym Go.RowKit
set_option maxRecDepth 100000
set_option linter.unusedVariables false
set_option linter.unusedSimpArgs false
set_option maxHeartbeats 4000000

theorem law_run (H : NE) (vs : List Value) (x : N8u [.slice Nd2, .slice tFo, .slice (.int .i8), .int .u8, .int .u16]) (h : Nke [.slice Nd2, .slice tFo, .slice (.int .i8), .int .u8, .int .u16] H x vs) : NK (@Fn.E Nud) false H.length 6 vs H fun v _ => v = .bool true := by
  obtain ⟨v0, _, rfl, g0, v1, _, rfl, g1, v2, _, rfl, g2, v3, _, rfl, g3, v4, _, rfl, g4, rfl⟩ := h
  obtain ⟨p0, k0, u0, rfl, s0, b0, c0, l0⟩ := Nyi g0
  obtain ⟨p1, k1, u1, rfl, s1, b1, c1, l1⟩ := Nvl g1
  obtain ⟨p2, k2, u2, rfl, s2, b2, l2⟩ := Nq4 g2
  obtain ⟨rfl, b3⟩ := Nso g3
  obtain ⟨rfl, b4⟩ := Nso g4
  have hx := @Fn.AnomalyDoubled_ok Nud
  rw [hx Obh rfl s0 b0 l0 c0 s1 b1 c1 l1 b2 s2 l2 b3 b4]

theorem law_lifted (os : Os) (started : os.Started) (H : Type) (enc : TypeId × Value → H) :
    ReturnsInHanded {} Tryz.checked os 6 .any (Rows.anomalyDoubledSpec.pre6 enc Tryz.prog Tryz.f6 Rows.anomalyDoubledRow.domain false) (Rows.anomalyDoubledSpec.post enc Tryz.prog Tryz.f6 false true false false) :=
  Nmm (C := Tryz.checked) (E := @Fn.E Nud) (tys := [.slice Nd2, .slice tFo, .slice (.int .i8), .int .u8, .int .u16]) own started (by kernel_rfl) Tryz.func6 rfl
    (fun ds hd => match ds, hd with | [_, _, _, _, _], _ => rfl) rfl (by kernel_rfl) (by kernel_rfl) (of_decide_eq_true (by kernel_rfl)) laidOut Oa1
    (ChangeSpec.witness6 (enc := enc) (C := Tryz.checked) false ⟨#[], #[.slice none 0 0, .slice none 0 0, .slice none 0 0, .int .u8 0, .int .u16 0], []⟩ 8 (by kernel_rfl) (by kernel_rfl) (by kernel_rfl) (by kernel_rfl)) law_run

theorem anomalyDoubled_holds : Rows.AnomalyDoubledSaid :=
  OpenClaim.holds_of_wide 6 Tryz.f6 rfl rfl rfl rfl rfl rfl rfl ⟨rfl, rfl, rfl, rfl, rfl⟩ rfl rfl rfl rfl rfl (by kernel_rfl) Tryz.func6 (by kernel_rfl)
    (of_decide_eq_true (by kernel_rfl)) (by unfold Func.isWrapper; first | (rw [if_pos (by decide +kernel)]; kernel_rfl) | (rw [if_neg (by decide +kernel)]; exact ⟨rfl, rfl⟩))
    (fun os started H enc _ => law_lifted os started H enc)
end Go.Proofs.YtkppjkkkdpcgiaaGreat
