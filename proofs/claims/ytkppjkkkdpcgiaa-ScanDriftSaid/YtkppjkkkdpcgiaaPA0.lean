/-
  Chapter 37: the statement ScanDrift.
  CONDITIONS: none beyond those of the rows.
-/
import Derived.Test.YtkppjkkkdpcgiaaPA9
namespace Go.Proofs.Ytkppjkkkdpcgiaa
open Go.AM Go.RowKit
set_option maxRecDepth 100000
set_option linter.unusedVariables false
set_option linter.unusedSimpArgs false
set_option maxHeartbeats 4000000

theorem law_run (H : Heap) (vs : List Value) (x : dens [.int .u16, .int .u16, .int .i16, .int .i16, .int .u16, .int .u16]) (h : RepAll [.int .u16, .int .u16, .int .i16, .int .i16, .int .u16, .int .u16] H x vs) : CallR (@Fn.E on37) false H.length 7 vs H fun v _ => v = .bool true := by
  obtain ⟨v0, _, rfl, h0, v1, _, rfl, h1, v2, _, rfl, h2, v3, _, rfl, h3, v4, _, rfl, h4, v5, _, rfl, h5, rfl⟩ := h
  obtain ⟨rfl, a1, a2⟩ := int_arg h0
  obtain ⟨rfl, b1, b2⟩ := int_arg h1
  obtain ⟨rfl, c1, c2⟩ := int_arg h2
  obtain ⟨rfl, d1, d2⟩ := int_arg h3
  obtain ⟨rfl, e1, e2⟩ := int_arg h4
  obtain ⟨rfl, f1, f2⟩ := int_arg h5
  have m1 : IntKind.u16.min = 0 := by decide
  have m2 : IntKind.u16.max = 65535 := by decide
  have m3 : IntKind.i16.min = -32768 := by decide
  have m4 : IntKind.i16.max = 32767 := by decide
  rw [m1] at a1 b1 e1 f1
  rw [m2] at a2 b2 e2 f2
  rw [m3] at c1 d1
  rw [m4] at c2 d2
  rw [@Fn.ScanDrift_ok on37 rfl _ _ _ _ _ _ _ _ _ _ ⟨a1, a2⟩ ⟨b1, b2⟩ ⟨c1, c2⟩ ⟨d1, d2⟩ ⟨e1, e2⟩ ⟨f1, f2⟩]

theorem law_lifted (os : Os) (started : os.Started) (H : Type) (enc : TypeId × Value → H) :
    ReturnsInHanded {} Try.checked os 7 .any (Rows.scanDriftSpec.pre6 enc Try.prog Try.f7 Rows.scanDriftRow.domain false) (Rows.scanDriftSpec.post enc Try.prog Try.f7 false true false false) :=
  law_returns (C := Try.checked) (E := @Fn.E on37) (tys := [.int .u16, .int .u16, .int .i16, .int .i16, .int .u16, .int .u16]) own started (by kernel_rfl) Try.func7 rfl
    (fun ds hd => match ds, hd with | [_, _, _, _, _, _], _ => rfl) rfl (by kernel_rfl) (by kernel_rfl) (of_decide_eq_true (by kernel_rfl)) laidOut okE37
    (ChangeSpec.witness6 (enc := enc) (C := Try.checked) false ⟨#[], #[.int .u16 0, .int .u16 0, .int .i16 0, .int .i16 0, .int .u16 0, .int .u16 0], []⟩ 8 (by kernel_rfl) (by kernel_rfl) (by kernel_rfl) (by kernel_rfl)) law_run

theorem scanDrift_holds : Rows.ScanDriftSaid :=
  OpenClaim.holds_of_wide 7 Try.f7 rfl rfl rfl rfl rfl rfl rfl ⟨rfl, rfl, rfl, rfl, rfl⟩ rfl rfl rfl rfl rfl (by kernel_rfl) Try.func7 (by kernel_rfl)
    (of_decide_eq_true (by kernel_rfl)) (by unfold Func.isWrapper; first | (rw [if_pos (by decide +kernel)]; kernel_rfl) | (rw [if_neg (by decide +kernel)]; exact ⟨rfl, rfl⟩))
    (fun os started H enc _ => law_lifted os started H enc)
end Go.Proofs.Ytkppjkkkdpcgiaa
