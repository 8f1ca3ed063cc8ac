/-
  Chapter 33: the statement RouteWithout.
  CONDITIONS: none beyond those of the rows.
-/
import Derived.Test.YtcmhnincbkbncaaPK9
namespace Go.Proofs.Ytcmhnincbkbncaa
open Go.AM Go.RowKit
set_option maxRecDepth 100000
set_option linter.unusedVariables false
set_option linter.unusedSimpArgs false
set_option maxHeartbeats 4000000

theorem law_run (H : Heap) (vs : List Value) (x : dens [tNet, .int .i64, .int .i64, .int .i64, .int .i64]) (h : RepAll [tNet, .int .i64, .int .i64, .int .i64, .int .i64] H x vs) : CallR (@Fn.E on33) false H.length 6 vs H fun v _ => v = .bool true := by
  obtain ⟨v0, _, rfl, h0, v1, _, rfl, h1, v2, _, rfl, h2, v3, _, rfl, h3, v4, _, rfl, h4, rfl⟩ := h
  obtain ⟨pp, cp, pl, cl, P, L, rfl, hn, hcl, hcp⟩ := net_arg h0
  obtain ⟨rfl, _⟩ := int_arg h1
  obtain ⟨rfl, _⟩ := int_arg h2
  obtain ⟨rfl, _⟩ := int_arg h3
  obtain ⟨rfl, _⟩ := int_arg h4
  have hx := @Fn.RouteWithout_ok on33
  rw [hx hn hcl rfl]

theorem law_lifted (os : Os) (started : os.Started) (H : Type) (enc : TypeId × Value → H) :
    ReturnsInHanded {} Try.checked os 6 .any (Rows.routeWithoutSpec.pre6 enc Try.prog Try.f6 Rows.routeWithoutRow.domain false) (Rows.routeWithoutSpec.post enc Try.prog Try.f6 false true false false) :=
  law_returns (C := Try.checked) (E := @Fn.E on33) (tys := [tNet, .int .i64, .int .i64, .int .i64, .int .i64]) own started (by kernel_rfl) Try.func6 rfl
    (fun ds hd => match ds, hd with | [_, _, _, _, _], _ => rfl) rfl (by kernel_rfl) (by kernel_rfl) (of_decide_eq_true (by kernel_rfl)) laidOut okE33
    (ChangeSpec.witness6 (enc := enc) (C := Try.checked) false ⟨#[], #[.agg #[.slice none 0 0, .slice none 0 0], .int .i64 0, .int .i64 0, .int .i64 0, .int .i64 0], []⟩ 8 (by kernel_rfl) (by kernel_rfl) (by kernel_rfl) (by kernel_rfl)) law_run

theorem routeWithout_holds : Rows.RouteWithoutSaid :=
  OpenClaim.holds_of_wide 6 Try.f6 rfl rfl rfl rfl rfl rfl rfl ⟨rfl, rfl, rfl, rfl, rfl⟩ rfl rfl rfl rfl rfl (by kernel_rfl) Try.func6 (by kernel_rfl)
    (of_decide_eq_true (by kernel_rfl)) (by unfold Func.isWrapper; first | (rw [if_pos (by decide +kernel)]; kernel_rfl) | (rw [if_neg (by decide +kernel)]; exact ⟨rfl, rfl⟩))
    (fun os started H enc _ => law_lifted os started H enc)
end Go.Proofs.Ytcmhnincbkbncaa
