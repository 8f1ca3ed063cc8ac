/-
  Chapter 34: the statement LoadChecks.
  CONDITIONS: none beyond those of the rows.
-/
import Derived.Test.YtohnaffmcjbpoaaPE9
namespace Go.Proofs.Ytohnaffmcjbpoaa
open Go.AM Go.RowKit
set_option maxRecDepth 100000
set_option linter.unusedVariables false
set_option linter.unusedSimpArgs false
set_option maxHeartbeats 4000000

theorem law_run (H : zH) (vs : List Value) (x : dens [tNet, .slice tSrc, .int .i64, .int .i64, .slice tLd]) (h : RepAll [tNet, .slice tSrc, .int .i64, .int .i64, .slice tLd] H x vs) : za0 (@Fn.E onL) false H.length 3 vs H fun v _ => v = .bool true := by
  obtain ⟨v0, _, rfl, h0, v1, _, rfl, h1, v2, _, rfl, h2, v3, _, rfl, h3, v4, _, rfl, h4, rfl⟩ := h
  obtain ⟨pp, cp, pl, cl, P, L, rfl, hn, hcl, hcp⟩ := net_arg h0
  obtain ⟨ps, cs, s, rfl, hs, hcs, hsl⟩ := srcs_arg h1
  obtain ⟨rfl, _⟩ := int_arg h2
  obtain ⟨rfl, _⟩ := int_arg h3
  obtain ⟨p4, c4, ld, rfl, h4, hc4, hl4⟩ := lds_arg h4
  letI : Fn.OB := onL
  exact Fn.LoadChecks_ok rfl hn hs hsl h4

theorem law_lifted (os : Os) (started : os.Started) (H : Type) (enc : TypeId × Value → H) :
    ReturnsInHanded {} Try.checked os 3 .any (Rows.loadChecksSpec.pre6 enc Try.prog Try.f3 Rows.loadChecksRow.domain false) (Rows.loadChecksSpec.post enc Try.prog Try.f3 false true false false) :=
  law_returns (C := Try.checked) (E := @Fn.E onL) (tys := [tNet, .slice tSrc, .int .i64, .int .i64, .slice tLd]) own started (by kernel_rfl) Try.func3 rfl
    (fun ds hd => match ds, hd with | [_, _, _, _, _], _ => rfl) rfl (by kernel_rfl) (by kernel_rfl) (of_decide_eq_true (by kernel_rfl)) laidOut okEL
    (ChangeSpec.witness6 (enc := enc) (C := Try.checked) false ⟨#[], #[.agg #[.slice none 0 0, .slice none 0 0], .slice none 0 0, .int .i64 0, .int .i64 0, .slice none 0 0], []⟩ 8 (by kernel_rfl) (by kernel_rfl) (by kernel_rfl) (by kernel_rfl)) law_run

theorem loadChecks_holds : Rows.LoadChecksSaid :=
  OpenClaim.holds_of_wide 3 Try.f3 rfl rfl rfl rfl rfl rfl rfl ⟨rfl, rfl, rfl, rfl, rfl⟩ rfl rfl rfl rfl rfl (by kernel_rfl) Try.func3 (by kernel_rfl)
    (of_decide_eq_true (by kernel_rfl)) (by unfold Func.isWrapper; first | (rw [if_pos (by decide +kernel)]; kernel_rfl) | (rw [if_neg (by decide +kernel)]; exact ⟨rfl, rfl⟩))
    (fun os started H enc _ => law_lifted os started H enc)
end Go.Proofs.Ytohnaffmcjbpoaa
