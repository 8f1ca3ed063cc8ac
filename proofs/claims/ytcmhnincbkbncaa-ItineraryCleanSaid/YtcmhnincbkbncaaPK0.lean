/-
  Chapter 38: the statement ItineraryClean.
  CONDITIONS: none beyond those of the rows.
-/
import Derived.Test.YtcmhnincbkbncaaPK9
namespace Go.Proofs.Ytcmhnincbkbncaa
open Go.AM Go.RowKit
set_option maxRecDepth 100000
set_option linter.unusedVariables false
set_option linter.unusedSimpArgs false
set_option maxHeartbeats 4000000

theorem byte_enc (H : Heap) (x : (Ty.int .u8).den) (c : List Value) (h : Rep (.int .u8) H x c) : c = Fn.encU (id x) := h.1
theorem bytes_arg {H : Heap} {l : List (Ty.int .u8).den} {v : Value} (h : RepV (.slice (.int .u8)) H l v) : ∃ p k, ∃ ds : List Int, v = .slice p ds.length k ∧ Sl H Fn.encU 1 p ds ∧ (∀ x ∈ ds, 0 ≤ x ∧ x ≤ 255) ∧ ds.length < 2 ^ 63 := by
  obtain ⟨p, k, e, h1, h3, h2⟩ := slice_arg (t := .int .u8) id Fn.encU byte_enc h
  refine ⟨p, k, _, e, h1, fun x hx => ?_, ?_⟩
  · obtain ⟨y, hy, rfl⟩ := List.mem_map.1 hx
    obtain ⟨c, hc⟩ := Rep.slice_mem (h.one rfl) y hy
    exact hc.2
  · exact h2
theorem law_run (H : Heap) (vs : List Value) (x : dens [.slice tRaw, .int .u8, .int .u8, .slice (.int .u8), .slice tLook]) (h : RepAll [.slice tRaw, .int .u8, .int .u8, .slice (.int .u8), .slice tLook] H x vs) : CallR (@Fn.E on38) false H.length 16 vs H fun v _ => v = .bool true := by
  obtain ⟨v0, _, rfl, h0, va, _, rfl, ha, vb, _, rfl, hb9, vd, _, rfl, hd, v1, _, rfl, h1, rfl⟩ := h
  obtain ⟨p, k, rs, rfl, hs, hb, hc, hl⟩ := raws_arg h0
  obtain ⟨p2, k2, ls, rfl, hs2, hb2, hc2, hl2⟩ := looks_arg h1
  obtain ⟨rfl, q1, q2⟩ := int_arg ha
  obtain ⟨rfl, q3, q4⟩ := int_arg hb9
  obtain ⟨p3, k3, ds, rfl, hs3, hb3, hl3⟩ := bytes_arg hd
  have hx := @Fn.Clean_ok on38
  rw [hx hs hb hl hc hs2 hb2 hl2 hc2 ⟨q1, q2⟩ ⟨q3, q4⟩ hs3 hl3 hb3 rfl]

theorem law_lifted (os : Os) (started : os.Started) (H : Type) (enc : TypeId × Value → H) :
    ReturnsInHanded {} Try.checked os 16 .any (Rows.itineraryCleanSpec.pre6 enc Try.prog Try.f16 Rows.itineraryCleanRow.domain false) (Rows.itineraryCleanSpec.post enc Try.prog Try.f16 false true false false) :=
  law_returns (C := Try.checked) (E := @Fn.E on38) (tys := [.slice tRaw, .int .u8, .int .u8, .slice (.int .u8), .slice tLook]) own started (by kernel_rfl) Try.func16 rfl
    (fun ds hd => match ds, hd with | [_, _, _, _, _], _ => rfl) rfl (by kernel_rfl) (by kernel_rfl) (of_decide_eq_true (by kernel_rfl)) laidOut okE38
    (ChangeSpec.witness6 (enc := enc) (C := Try.checked) false ⟨#[], #[.slice none 0 0, .int .u8 0, .int .u8 0, .slice none 0 0, .slice none 0 0], []⟩ 8 (by kernel_rfl) (by kernel_rfl) (by kernel_rfl) (by kernel_rfl)) law_run

theorem itineraryClean_holds : Rows.ItineraryCleanSaid :=
  OpenClaim.holds_of_wide 16 Try.f16 rfl rfl rfl rfl rfl rfl rfl ⟨rfl, rfl, rfl, rfl, rfl⟩ rfl rfl rfl rfl rfl (by kernel_rfl) Try.func16 (by kernel_rfl)
    (of_decide_eq_true (by kernel_rfl)) (by unfold Func.isWrapper; first | (rw [if_pos (by decide +kernel)]; kernel_rfl) | (rw [if_neg (by decide +kernel)]; exact ⟨rfl, rfl⟩))
    (fun os started H enc _ => law_lifted os started H enc)
end Go.Proofs.Ytcmhnincbkbncaa
