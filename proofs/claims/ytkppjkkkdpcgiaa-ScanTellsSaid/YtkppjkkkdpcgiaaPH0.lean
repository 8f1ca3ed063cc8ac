/-
  Chapter 37: the statement ScanTells.
  CONDITIONS: none beyond those of the rows.
-/
import Derived.Test.YtkppjkkkdpcgiaaPH10
namespace Go.Proofs.Ytkppjkkkdpcgiaa
open Go.AM Go.AM.Sym Go.RowKit
set_option maxRecDepth 100000
set_option linter.unusedVariables false
set_option linter.unusedSimpArgs false
set_option maxHeartbeats 4000000

abbrev tSc : Ty := .pair (.int .i64) (.pair (.int .i64) (.pair (.int .i64) (.pair (.int .u8) (.pair (.int .i64) (.pair (.int .i64) .nil)))))
def toSc (x : tSc.den) : Go.Scan.Ev := ⟨x.1, x.2.1, x.2.2.1, x.2.2.2.1, x.2.2.2.2.1, x.2.2.2.2.2.1, 0⟩
theorem sc_enc (H : Heap) (x : tSc.den) (c : List Value) (h : Rep tSc H x c) : c = Fn.encN (toSc x) := by
  obtain ⟨c1, r1, rfl, h1, c2, r2, rfl, h2, c3, r3, rfl, h3, c4, r4, rfl, h4, c5, r5, rfl, h5, c6, r6, rfl, h6, h7⟩ := h
  simp only [Rep] at h1 h2 h3 h4 h5 h6 h7
  rw [h1.1, h2.1, h3.1, h4.1, h5.1, h6.1, h7]
  rfl
theorem law_run (H : Heap) (vs : List Value) (x : dens [.slice tSc, .int .i64]) (h : RepAll [.slice tSc, .int .i64] H x vs) : CallR (@Fn.Ef on37) false H.length 10 vs H fun v _ => v = .bool true := by
  obtain ⟨v0, _, rfl, h0, v1, _, rfl, h1, rfl⟩ := h
  obtain ⟨p, k, e, hs, hc, hl⟩ := slice_arg (t := tSc) toSc Fn.encN sc_enc h0
  obtain ⟨rfl, _, _⟩ := int_arg h1
  rw [e]
  have hx := @Fn.ScanTells_ok on37
  rw [hx rfl hs]

theorem law_lifted (os : Os) (started : os.Started) (H : Type) (enc : TypeId × Value → H) :
    ReturnsInHanded {} Try.checked os 10 .any (Rows.scanTellsSpec.pre6 enc Try.prog Try.f10 Rows.scanTellsRow.domain false) (Rows.scanTellsSpec.post enc Try.prog Try.f10 false true false false) :=
  law_returns (C := Try.checked) (E := @Fn.Ef on37) (tys := [.slice tSc, .int .i64]) own started (by kernel_rfl) Try.func10 rfl
    (fun ds hd => match ds, hd with | [_, _], _ => rfl) rfl (by kernel_rfl) (by kernel_rfl) (of_decide_eq_true (by kernel_rfl)) laidOut okEf37
    (ChangeSpec.witness6 (enc := enc) (C := Try.checked) false ⟨#[], #[.slice none 0 0, .int .i64 0], []⟩ 8 (by kernel_rfl) (by kernel_rfl) (by kernel_rfl) (by kernel_rfl)) law_run

theorem scanTells_holds : Rows.ScanTellsSaid :=
  OpenClaim.holds_of_wide 10 Try.f10 rfl rfl rfl rfl rfl rfl rfl ⟨rfl, rfl, rfl, rfl, rfl⟩ rfl rfl rfl rfl rfl (by kernel_rfl) Try.func10 (by kernel_rfl)
    (of_decide_eq_true (by kernel_rfl)) (by unfold Func.isWrapper; first | (rw [if_pos (by decide +kernel)]; kernel_rfl) | (rw [if_neg (by decide +kernel)]; exact ⟨rfl, rfl⟩))
    (fun os started H enc _ => law_lifted os started H enc)
end Go.Proofs.Ytkppjkkkdpcgiaa
