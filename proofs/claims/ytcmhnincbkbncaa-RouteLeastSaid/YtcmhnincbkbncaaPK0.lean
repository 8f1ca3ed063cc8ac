/-
  Chapter 33: the statement RouteLeast.
  CONDITIONS: none beyond those of the rows.
-/
import Derived.Test.YtcmhnincbkbncaaPK9
namespace Go.Proofs.Ytcmhnincbkbncaa
open Go.AM Go.RowKit
set_option maxRecDepth 100000
set_option linter.unusedVariables false
set_option linter.unusedSimpArgs false
set_option maxHeartbeats 4000000

abbrev tStop : Ty := .pair (.int .i64) (.pair (.int .i64) (.pair (.int .i64) .nil))
def toStop (x : tStop.den) : Int × Int × Int := (x.1, x.2.1, x.2.2.1)
theorem stop_enc (H : Heap) (x : tStop.den) (c : List Value) (h : Rep tStop H x c) : c = Fn.enc3 (toStop x) := by
  obtain ⟨c1, r1, rfl, h1, c2, r2, rfl, h2, c3, r3, rfl, h3, h4⟩ := h
  simp only [Rep] at h1 h2 h3 h4
  rw [h1.1, h2.1, h3.1, h4]
  rfl
theorem stops_arg {H : Heap} {l : List tStop.den} {v : Value} (h : RepV (.slice tStop) H l v) : ∃ p k, ∃ s : List (Int × Int × Int), v = .slice p s.length k ∧ Sl H Fn.enc3 3 p s ∧ s.length < 2 ^ 63 ∧ ∀ x ∈ s, -2 ^ 63 ≤ x.2.1 ∧ x.2.1 < 2 ^ 63 := by
  obtain ⟨p, k, e, h1, _, h2⟩ := slice_arg (t := tStop) toStop Fn.enc3 stop_enc h
  refine ⟨p, k, _, e, h1, h2, fun x hx => ?_⟩
  obtain ⟨y, hy, rfl⟩ := List.mem_map.1 hx
  obtain ⟨c, hc⟩ := Rep.slice_mem (h.one rfl) y hy
  obtain ⟨c1, r1, rfl, h1, c2, r2, rfl, h2, _⟩ := hc
  have aux : ∀ z : Int, -2 ^ 63 ≤ z → z ≤ 2 ^ 63 - 1 → -2 ^ 63 ≤ z ∧ z < 2 ^ 63 := fun z a b => ⟨a, by omega⟩
  exact aux y.2.1 h2.2.1 h2.2.2

theorem law_run (H : Heap) (vs : List Value) (x : dens [tNet, .int .i64, .int .i64, .int .i64, .slice tStop]) (h : RepAll [tNet, .int .i64, .int .i64, .int .i64, .slice tStop] H x vs) : CallR (@Fn.E on33) false H.length 9 vs H fun v _ => v = .bool true := by
  obtain ⟨v0, _, rfl, h0, v1, _, rfl, h1, v2, _, rfl, h2, v3, _, rfl, h3, v4, _, rfl, h4, rfl⟩ := h
  obtain ⟨pp, cp, pl, cl, P, L, rfl, hn, hcl, hcp⟩ := net_arg h0
  obtain ⟨rfl, _⟩ := int_arg h1
  obtain ⟨rfl, _⟩ := int_arg h2
  obtain ⟨rfl, _⟩ := int_arg h3
  obtain ⟨ps, cs, s, rfl, hs, hsl, hsr⟩ := stops_arg h4
  have hx := @Fn.RouteLeast_ok on33
  rw [hx hn hs hsl hsr rfl]

theorem law_lifted (os : Os) (started : os.Started) (H : Type) (enc : TypeId × Value → H) :
    ReturnsInHanded {} Try.checked os 9 .any (Rows.routeLeastSpec.pre6 enc Try.prog Try.f9 Rows.routeLeastRow.domain false) (Rows.routeLeastSpec.post enc Try.prog Try.f9 false true false false) :=
  law_returns (C := Try.checked) (E := @Fn.E on33) (tys := [tNet, .int .i64, .int .i64, .int .i64, .slice tStop]) own started (by kernel_rfl) Try.func9 rfl
    (fun ds hd => match ds, hd with | [_, _, _, _, _], _ => rfl) rfl (by kernel_rfl) (by kernel_rfl) (of_decide_eq_true (by kernel_rfl)) laidOut okE33
    (ChangeSpec.witness6 (enc := enc) (C := Try.checked) false ⟨#[], #[.agg #[.slice none 0 0, .slice none 0 0], .int .i64 0, .int .i64 0, .int .i64 0, .slice none 0 0], []⟩ 8 (by kernel_rfl) (by kernel_rfl) (by kernel_rfl) (by kernel_rfl)) law_run

theorem routeLeast_holds : Rows.RouteLeastSaid :=
  OpenClaim.holds_of_wide 9 Try.f9 rfl rfl rfl rfl rfl rfl rfl ⟨rfl, rfl, rfl, rfl, rfl⟩ rfl rfl rfl rfl rfl (by kernel_rfl) Try.func9 (by kernel_rfl)
    (of_decide_eq_true (by kernel_rfl)) (by unfold Func.isWrapper; first | (rw [if_pos (by decide +kernel)]; kernel_rfl) | (rw [if_neg (by decide +kernel)]; exact ⟨rfl, rfl⟩))
    (fun os started H enc _ => law_lifted os started H enc)
end Go.Proofs.Ytcmhnincbkbncaa
