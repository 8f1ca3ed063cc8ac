/-
  Chapter 39: the statement AnomalyClean.
  CONDITIONS: none beyond those of the rows.
-/
import Derived.Test.YtkppjkkkdpcgiaaGreatPE9
namespace Go.Proofs.YtkppjkkkdpcgiaaGreat
open Go.AM Go.AM.Sym Go.RowKit
set_option maxRecDepth 100000
set_option linter.unusedVariables false
set_option linter.unusedSimpArgs false
set_option maxHeartbeats 4000000

theorem N1k (H : NE) (x : (Ty.int .u8).den) (c : List Value) (h : Rep (.int .u8) H x c) : c = Fn.enc8 (id x) := h.1
theorem Nvf {H : NE} {l : List (Ty.int .u8).den} {v : Value} (h : Yc (.slice (.int .u8)) H l v) : ∃ p k, ∃ rs : List Int, v = .slice p rs.length k ∧ Sl H Fn.enc8 1 p rs ∧ (∀ d ∈ rs, 0 ≤ d ∧ d ≤ 255) ∧ Ws 1 k rs.length ∧ rs.length < 2 ^ 63 := by
  obtain ⟨p, k, e, h1, h3, h2⟩ := Nsq (t := .int .u8) id Fn.enc8 N1k h
  refine ⟨p, k, _, e, h1, fun x hx => ?_, h3, h2⟩
  obtain ⟨y, hy, rfl⟩ := List.mem_map.1 hx
  obtain ⟨c, hc⟩ := Rep.slice_mem (h.one rfl) y hy
  exact ⟨hc.2.1, hc.2.2⟩
theorem law_run (H : NE) (vs : List Value) (x : N7h [.slice (.int .u8), .int .u8, .int .u16]) (h : Njg [.slice (.int .u8), .int .u8, .int .u16] H x vs) : NL (@Fn.E Nti) false H.length 8 vs H fun v _ => v = .bool true := by
  obtain ⟨v0, _, rfl, g0, v1, _, rfl, g1, v2, _, rfl, g2, rfl⟩ := h
  obtain ⟨p0, k0, u0, rfl, s0, b0, c0, l0⟩ := Nvf g0
  obtain ⟨rfl, b1⟩ := Nrt g1
  obtain ⟨rfl, b2⟩ := Nrt g2
  have hx := @Fn.AnomalyClean_ok Nti
  rw [hx N92 rfl s0 c0 l0 b0 b1 b2]

theorem law_lifted (os : Os) (started : os.Started) (H : Type) (enc : TypeId × Value → H) :
    ReturnsInHanded {} Tryz.checked os 8 .any (Rows.anomalyCleanSpec.pre6 enc Tryz.prog Tryz.f8 Rows.anomalyCleanRow.domain false) (Rows.anomalyCleanSpec.post enc Tryz.prog Tryz.f8 false true false false) :=
  Nlu (C := Tryz.checked) (E := @Fn.E Nti) (tys := [.slice (.int .u8), .int .u8, .int .u16]) own started (by kernel_rfl) Tryz.func8 rfl
    (fun ds hd => match ds, hd with | [_, _, _], _ => rfl) rfl (by kernel_rfl) (by kernel_rfl) (of_decide_eq_true (by kernel_rfl)) laidOut N9k
    (ChangeSpec.witness6 (enc := enc) (C := Tryz.checked) false ⟨#[], #[.slice none 0 0, .int .u8 0, .int .u16 0], []⟩ 8 (by kernel_rfl) (by kernel_rfl) (by kernel_rfl) (by kernel_rfl)) law_run

theorem anomalyClean_holds : Rows.AnomalyCleanSaid :=
  OpenClaim.holds_of_wide 8 Tryz.f8 rfl rfl rfl rfl rfl rfl rfl ⟨rfl, rfl, rfl, rfl, rfl⟩ rfl rfl rfl rfl rfl (by kernel_rfl) Tryz.func8 (by kernel_rfl)
    (of_decide_eq_true (by kernel_rfl)) (by unfold Func.isWrapper; first | (rw [if_pos (by decide +kernel)]; kernel_rfl) | (rw [if_neg (by decide +kernel)]; exact ⟨rfl, rfl⟩))
    (fun os started H enc _ => law_lifted os started H enc)
end Go.Proofs.YtkppjkkkdpcgiaaGreat
