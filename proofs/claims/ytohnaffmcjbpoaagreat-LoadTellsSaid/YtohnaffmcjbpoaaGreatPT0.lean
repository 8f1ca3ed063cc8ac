/-
  Chapter 34: the statement LoadTells.
  CONDITIONS: none beyond those of the rows.
-/
import Derived.Test.YtohnaffmcjbpoaaGreatPT10
namespace Go.Proofs.YtohnaffmcjbpoaaGreat
open Go.AM Go.RowKit
set_option maxRecDepth 100000
set_option linter.unusedVariables false
set_option linter.unusedSimpArgs false
set_option maxHeartbeats 4000000

theorem law_run (H : NA) (vs : List Value) (x : N2t [Ns6, .slice Nf9, .int .i64, .int .i64]) (h : Nhp [Ns6, .slice Nf9, .int .i64, .int .i64] H x vs) : NR (@Fn.E onL) false H.length 3 vs H fun v _ => v = .bool true := by
  obtain ⟨v0, _, rfl, h0, v1, _, rfl, h1, v2, _, rfl, h2, v3, _, rfl, h3, rfl⟩ := h
  obtain ⟨pp, cp, pl, cl, P, L, rfl, hn, hcl, hcp⟩ := Nyv h0
  obtain ⟨ps, cs, s, rfl, hs, hcs, hsl⟩ := Ns9 h1
  obtain ⟨rfl, _⟩ := Noh h2
  obtain ⟨rfl, _⟩ := Noh h3
  letI : Fn.OB := onL
  exact Fn.LoadTells_ok rfl hn hs hsl

theorem law_lifted (os : Os) (started : os.Started) (H : Type) (enc : TypeId × Value → H) :
    ReturnsInHanded {} Tryz.checked os 3 .any (Rows.loadTellsSpec.pre6 enc Tryz.prog Tryz.f3 Rows.loadTellsRow.domain false) (Rows.loadTellsSpec.post enc Tryz.prog Tryz.f3 false true false false) :=
  Njj (C := Tryz.checked) (E := @Fn.E onL) (tys := [Ns6, .slice Nf9, .int .i64, .int .i64]) own started (by kernel_rfl) Tryz.func3 rfl
    (fun ds hd => match ds, hd with | [_, _, _, _], _ => rfl) rfl (by kernel_rfl) (by kernel_rfl) (of_decide_eq_true (by kernel_rfl)) laidOut N5y
    (ChangeSpec.witness6 (enc := enc) (C := Tryz.checked) false ⟨#[], #[.agg #[.slice none 0 0, .slice none 0 0], .slice none 0 0, .int .i64 0, .int .i64 0], []⟩ 8 (by kernel_rfl) (by kernel_rfl) (by kernel_rfl) (by kernel_rfl)) law_run

theorem loadTells_holds : Rows.LoadTellsSaid :=
  OpenClaim.holds_of_wide 3 Tryz.f3 rfl rfl rfl rfl rfl rfl rfl ⟨rfl, rfl, rfl, rfl, rfl⟩ rfl rfl rfl rfl rfl (by kernel_rfl) Tryz.func3 (by kernel_rfl)
    (of_decide_eq_true (by kernel_rfl)) (by unfold Func.isWrapper; first | (rw [if_pos (by decide +kernel)]; kernel_rfl) | (rw [if_neg (by decide +kernel)]; exact ⟨rfl, rfl⟩))
    (fun os started H enc _ => law_lifted os started H enc)
end Go.Proofs.YtohnaffmcjbpoaaGreat
