/-
  Chapter 34: the statement LoadOne.
  CONDITIONS: none beyond those of the rows.
-/
import Derived.Test.YtohnaffmcjbpoaaGreatPO9
namespace Go.Proofs.YtohnaffmcjbpoaaGreat
open Go.AM Go.RowKit
set_option maxRecDepth 100000
set_option linter.unusedVariables false
set_option linter.unusedSimpArgs false
set_option maxHeartbeats 4000000

theorem law_run (H : zH) (vs : List Value) (x : dens [tNet, .int .i64, .int .i64, .int .i64, .int .i64]) (h : RepAll [tNet, .int .i64, .int .i64, .int .i64, .int .i64] H x vs) : za0 (@Fn.E onL) false H.length 5 vs H fun v _ => v = .bool true := by
  obtain ⟨v0, _, rfl, h0, v1, _, rfl, h1, v2, _, rfl, h2, v3, _, rfl, h3, v4, _, rfl, h4, rfl⟩ := h
  obtain ⟨pp, cp, pl, cl, P, L, rfl, hn, hcl, hcp⟩ := net_arg h0
  obtain ⟨rfl, _⟩ := int_arg h1
  obtain ⟨rfl, _⟩ := int_arg h2
  obtain ⟨rfl, _⟩ := int_arg h3
  obtain ⟨rfl, _⟩ := int_arg h4
  letI : Fn.OB := onL
  exact Fn.LoadOne_ok rfl hn

theorem law_lifted (os : Os) (started : os.Started) (H : Type) (enc : TypeId × Value → H) :
    ReturnsInHanded {} Tryz.checked os 5 .any (Rows.loadOneSpec.pre6 enc Tryz.prog Tryz.f5 Rows.loadOneRow.domain false) (Rows.loadOneSpec.post enc Tryz.prog Tryz.f5 false true false false) :=
  law_returns (C := Tryz.checked) (E := @Fn.E onL) (tys := [tNet, .int .i64, .int .i64, .int .i64, .int .i64]) own started (by kernel_rfl) Tryz.func5 rfl
    (fun ds hd => match ds, hd with | [_, _, _, _, _], _ => rfl) rfl (by kernel_rfl) (by kernel_rfl) (of_decide_eq_true (by kernel_rfl)) laidOut okEL
    (ChangeSpec.witness6 (enc := enc) (C := Tryz.checked) false ⟨#[], #[.agg #[.slice none 0 0, .slice none 0 0], .int .i64 0, .int .i64 0, .int .i64 0, .int .i64 0], []⟩ 8 (by kernel_rfl) (by kernel_rfl) (by kernel_rfl) (by kernel_rfl)) law_run

theorem loadOne_holds : Rows.LoadOneSaid :=
  OpenClaim.holds_of_wide 5 Tryz.f5 rfl rfl rfl rfl rfl rfl rfl ⟨rfl, rfl, rfl, rfl, rfl⟩ rfl rfl rfl rfl rfl (by kernel_rfl) Tryz.func5 (by kernel_rfl)
    (of_decide_eq_true (by kernel_rfl)) (by unfold Func.isWrapper; first | (rw [if_pos (by decide +kernel)]; kernel_rfl) | (rw [if_neg (by decide +kernel)]; exact ⟨rfl, rfl⟩))
    (fun os started H enc _ => law_lifted os started H enc)
end Go.Proofs.YtohnaffmcjbpoaaGreat
