/-
  Chapter 37: the statement ScanSame.
  CONDITIONS: none beyond those of the rows.
-/
import Derived.Test.YtkppjkkkdpcgiaaPE9
namespace Go.Proofs.Ytkppjkkkdpcgiaa
open Go.AM Go.RowKit
set_option maxRecDepth 100000
set_option linter.unusedVariables false
set_option linter.unusedSimpArgs false
set_option maxHeartbeats 4000000

theorem law_run (H : Heap) (vs : List Value) (x : dens [.slice tFo, .slice (.int .i8), .int .u8, .int .u8, .int .u8]) (h : RepAll [.slice tFo, .slice (.int .i8), .int .u8, .int .u8, .int .u8] H x vs) : CallR (@Fn.Ef on37) false H.length 5 vs H fun v _ => v = .bool true := by
  obtain ⟨v0, _, rfl, h0, v1, _, rfl, h1, v2, _, rfl, h2, v3, _, rfl, h3, v4, _, rfl, h4, rfl⟩ := h
  obtain ⟨p, k, rs, rfl, hs, hb, hc, hl⟩ := forms_arg h0
  obtain ⟨p2, k2, ls, rfl, hs2, hb2, hl2⟩ := clocks_arg h1
  obtain ⟨rfl, c1, c2⟩ := int_arg h2
  obtain ⟨rfl, d1, d2⟩ := int_arg h3
  obtain ⟨rfl, e1, e2⟩ := int_arg h4
  have m1 : IntKind.u8.min = 0 := by decide
  have m2 : IntKind.u8.max = 255 := by decide
  rw [m1] at c1 d1 e1
  rw [m2] at c2 d2 e2
  have hx := @Fn.ScanSame_ok on37
  rw [hx rfl hs hc hs2 hb hb2 hl hl2 ⟨c1, c2⟩ ⟨d1, d2⟩ ⟨e1, e2⟩]

theorem law_lifted (os : Os) (started : os.Started) (H : Type) (enc : TypeId × Value → H) :
    ReturnsInHanded {} Try.checked os 5 .any (Rows.scanSameSpec.pre6 enc Try.prog Try.f5 Rows.scanSameRow.domain false) (Rows.scanSameSpec.post enc Try.prog Try.f5 false true false false) :=
  law_returns (C := Try.checked) (E := @Fn.Ef on37) (tys := [.slice tFo, .slice (.int .i8), .int .u8, .int .u8, .int .u8]) own started (by kernel_rfl) Try.func5 rfl
    (fun ds hd => match ds, hd with | [_, _, _, _, _], _ => rfl) rfl (by kernel_rfl) (by kernel_rfl) (of_decide_eq_true (by kernel_rfl)) laidOut okEf37
    (ChangeSpec.witness6 (enc := enc) (C := Try.checked) false ⟨#[], #[.slice none 0 0, .slice none 0 0, .int .u8 0, .int .u8 0, .int .u8 0], []⟩ 8 (by kernel_rfl) (by kernel_rfl) (by kernel_rfl) (by kernel_rfl)) law_run

theorem scanSame_holds : Rows.ScanSameSaid :=
  OpenClaim.holds_of_wide 5 Try.f5 rfl rfl rfl rfl rfl rfl rfl ⟨rfl, rfl, rfl, rfl, rfl⟩ rfl rfl rfl rfl rfl (by kernel_rfl) Try.func5 (by kernel_rfl)
    (of_decide_eq_true (by kernel_rfl)) (by unfold Func.isWrapper; first | (rw [if_pos (by decide +kernel)]; kernel_rfl) | (rw [if_neg (by decide +kernel)]; exact ⟨rfl, rfl⟩))
    (fun os started H enc _ => law_lifted os started H enc)
end Go.Proofs.Ytkppjkkkdpcgiaa
