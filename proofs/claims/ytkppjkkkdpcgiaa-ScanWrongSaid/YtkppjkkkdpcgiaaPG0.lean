/-
  Chapter 37: the statement ScanWrong.
  CONDITIONS: none beyond those of the rows.
-/
import Derived.Test.YtkppjkkkdpcgiaaPG9
namespace Go.Proofs.Ytkppjkkkdpcgiaa
open Go.AM Go.RowKit
set_option maxRecDepth 100000
set_option linter.unusedVariables false
set_option linter.unusedSimpArgs false
set_option maxHeartbeats 4000000

theorem law_run (H : Heap) (vs : List Value) (x : dens [.slice tFo, .slice (.int .i8), .int .u8, .int .i64]) (h : RepAll [.slice tFo, .slice (.int .i8), .int .u8, .int .i64] H x vs) : CallR (@Fn.Ef on37) false H.length 9 vs H fun v _ => v = .bool true := by
  obtain ⟨v0, _, rfl, h0, v1, _, rfl, h1, v2, _, rfl, h2, v3, _, rfl, h3, rfl⟩ := h
  obtain ⟨p, k, rs, rfl, hs, hb, hc, hl⟩ := forms_arg h0
  obtain ⟨p2, k2, ls, rfl, hs2, hb2, hl2⟩ := clocks_arg h1
  obtain ⟨rfl, c1, c2⟩ := int_arg h2
  obtain ⟨rfl, _, _⟩ := int_arg h3
  have m1 : IntKind.u8.min = 0 := by decide
  have m2 : IntKind.u8.max = 255 := by decide
  rw [m1] at c1
  rw [m2] at c2
  have hx := @Fn.ScanWrong_ok on37
  rw [hx rfl hs hc hs2 hb hb2 hl hl2 ⟨c1, c2⟩]

theorem law_lifted (os : Os) (started : os.Started) (H : Type) (enc : TypeId × Value → H) :
    ReturnsInHanded {} Try.checked os 9 .any (Rows.scanWrongSpec.pre6 enc Try.prog Try.f9 Rows.scanWrongRow.domain false) (Rows.scanWrongSpec.post enc Try.prog Try.f9 false true false false) :=
  law_returns (C := Try.checked) (E := @Fn.Ef on37) (tys := [.slice tFo, .slice (.int .i8), .int .u8, .int .i64]) own started (by kernel_rfl) Try.func9 rfl
    (fun ds hd => match ds, hd with | [_, _, _, _], _ => rfl) rfl (by kernel_rfl) (by kernel_rfl) (of_decide_eq_true (by kernel_rfl)) laidOut okEf37
    (ChangeSpec.witness6 (enc := enc) (C := Try.checked) false ⟨#[], #[.slice none 0 0, .slice none 0 0, .int .u8 0, .int .i64 0], []⟩ 8 (by kernel_rfl) (by kernel_rfl) (by kernel_rfl) (by kernel_rfl)) law_run

theorem scanWrong_holds : Rows.ScanWrongSaid :=
  OpenClaim.holds_of_wide 9 Try.f9 rfl rfl rfl rfl rfl rfl rfl ⟨rfl, rfl, rfl, rfl, rfl⟩ rfl rfl rfl rfl rfl (by kernel_rfl) Try.func9 (by kernel_rfl)
    (of_decide_eq_true (by kernel_rfl)) (by unfold Func.isWrapper; first | (rw [if_pos (by decide +kernel)]; kernel_rfl) | (rw [if_neg (by decide +kernel)]; exact ⟨rfl, rfl⟩))
    (fun os started H enc _ => law_lifted os started H enc)
end Go.Proofs.Ytkppjkkkdpcgiaa
