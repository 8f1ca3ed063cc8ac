/-
  Chapter 38: the statement ItineraryLeast.
  CONDITIONS: none beyond those of the rows.
-/
import Derived.Test.YtcmhnincbkbncaaPK7
namespace Go.Proofs.Ytcmhnincbkbncaa
open Go.AM Go.RowKit
set_option maxRecDepth 100000
set_option linter.unusedVariables false
set_option linter.unusedSimpArgs false
set_option maxHeartbeats 4000000

theorem law_run (H : Heap) (vs : List Value) (x : dens [.slice tRaw, .slice tLook]) (h : RepAll [.slice tRaw, .slice tLook] H x vs) : CallR (@Fn.E on38) false H.length 12 vs H fun v _ => v = .bool true := by
  obtain ⟨v0, _, rfl, h0, v1, _, rfl, h1, rfl⟩ := h
  obtain ⟨p, k, rs, rfl, hs, hb, hc, hl⟩ := raws_arg h0
  obtain ⟨p2, k2, ls, rfl, hs2, hb2, hc2, hl2⟩ := looks_arg h1
  have hx := @Fn.Least_ok on38
  rw [hx hs hb hl hc hs2 hb2 hl2 hc2 rfl]

theorem law_lifted (os : Os) (started : os.Started) (H : Type) (enc : TypeId × Value → H) :
    ReturnsInHanded {} Try.checked os 12 .any (Rows.itineraryLeastSpec.pre6 enc Try.prog Try.f12 Rows.itineraryLeastRow.domain false) (Rows.itineraryLeastSpec.post enc Try.prog Try.f12 false true false false) :=
  law_returns (C := Try.checked) (E := @Fn.E on38) (tys := [.slice tRaw, .slice tLook]) own started (by kernel_rfl) Try.func12 rfl
    (fun ds hd => match ds, hd with | [_, _], _ => rfl) rfl (by kernel_rfl) (by kernel_rfl) (of_decide_eq_true (by kernel_rfl)) laidOut okE38
    (ChangeSpec.witness6 (enc := enc) (C := Try.checked) false ⟨#[], #[.slice none 0 0, .slice none 0 0], []⟩ 8 (by kernel_rfl) (by kernel_rfl) (by kernel_rfl) (by kernel_rfl)) law_run

theorem itineraryLeast_holds : Rows.ItineraryLeastSaid :=
  OpenClaim.holds_of_wide 12 Try.f12 rfl rfl rfl rfl rfl rfl rfl ⟨rfl, rfl, rfl, rfl, rfl⟩ rfl rfl rfl rfl rfl (by kernel_rfl) Try.func12 (by kernel_rfl)
    (of_decide_eq_true (by kernel_rfl)) (by unfold Func.isWrapper; first | (rw [if_pos (by decide +kernel)]; kernel_rfl) | (rw [if_neg (by decide +kernel)]; exact ⟨rfl, rfl⟩))
    (fun os started H enc _ => law_lifted os started H enc)
end Go.Proofs.Ytcmhnincbkbncaa
