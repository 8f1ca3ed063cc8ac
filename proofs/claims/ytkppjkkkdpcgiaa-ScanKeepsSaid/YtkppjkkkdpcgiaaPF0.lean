/-
  Chapter 37: the statement ScanKeeps.
  CONDITIONS: none beyond those of the rows.
-/
import Derived.Test.YtkppjkkkdpcgiaaPF9
namespace Go.Proofs.Ytkppjkkkdpcgiaa
open Go.AM Go.RowKit
set_option maxRecDepth 100000
set_option linter.unusedVariables false
set_option linter.unusedSimpArgs false
set_option maxHeartbeats 4000000

theorem law_run (H : Heap) (vs : List Value) (x : dens [.slice tFo, .slice (.int .i8)]) (h : RepAll [.slice tFo, .slice (.int .i8)] H x vs) : CallR (@Fn.Ef on37) false H.length 8 vs H fun v _ => v = .bool true := by
  obtain ⟨v0, _, rfl, h0, v1, _, rfl, h1, rfl⟩ := h
  obtain ⟨p, k, rs, rfl, hs, hb, hc, hl⟩ := forms_arg h0
  obtain ⟨p2, k2, ls, rfl, hs2, hb2, hl2⟩ := clocks_arg h1
  have hx := @Fn.ScanKeeps_ok on37
  rw [hx rfl hs hc hs2 hb hb2 hl hl2]

theorem law_lifted (os : Os) (started : os.Started) (H : Type) (enc : TypeId × Value → H) :
    ReturnsInHanded {} Try.checked os 8 .any (Rows.scanKeepsSpec.pre6 enc Try.prog Try.f8 Rows.scanKeepsRow.domain false) (Rows.scanKeepsSpec.post enc Try.prog Try.f8 false true false false) :=
  law_returns (C := Try.checked) (E := @Fn.Ef on37) (tys := [.slice tFo, .slice (.int .i8)]) own started (by kernel_rfl) Try.func8 rfl
    (fun ds hd => match ds, hd with | [_, _], _ => rfl) rfl (by kernel_rfl) (by kernel_rfl) (of_decide_eq_true (by kernel_rfl)) laidOut okEf37
    (ChangeSpec.witness6 (enc := enc) (C := Try.checked) false ⟨#[], #[.slice none 0 0, .slice none 0 0], []⟩ 8 (by kernel_rfl) (by kernel_rfl) (by kernel_rfl) (by kernel_rfl)) law_run

theorem scanKeeps_holds : Rows.ScanKeepsSaid :=
  OpenClaim.holds_of_wide 8 Try.f8 rfl rfl rfl rfl rfl rfl rfl ⟨rfl, rfl, rfl, rfl, rfl⟩ rfl rfl rfl rfl rfl (by kernel_rfl) Try.func8 (by kernel_rfl)
    (of_decide_eq_true (by kernel_rfl)) (by unfold Func.isWrapper; first | (rw [if_pos (by decide +kernel)]; kernel_rfl) | (rw [if_neg (by decide +kernel)]; exact ⟨rfl, rfl⟩))
    (fun os started H enc _ => law_lifted os started H enc)
end Go.Proofs.Ytkppjkkkdpcgiaa
