/-
  Chapter 38: the statement ItineraryPrices.
  CONDITIONS: none beyond those of the rows.
-/
import Derived.Test.YtjmmhkodgileiabPA7
namespace Go.Proofs.Ytjmmhkodgileiab
open Go.AM Go.RowKit
set_option maxRecDepth 100000
set_option linter.unusedVariables false
set_option linter.unusedSimpArgs false
set_option maxHeartbeats 4000000

theorem law_run (H : Heap) (vs : List Value) (x : dens [.slice tRaw, .slice tLook, .int .u16]) (h : RepAll [.slice tRaw, .slice tLook, .int .u16] H x vs) : CallR (@Fn.E onB) false H.length 4 vs H fun v _ => v = .bool true := by
  obtain ⟨v0, _, rfl, h0, v1, _, rfl, h1, v2, _, rfl, h2, rfl⟩ := h
  obtain ⟨p, k, rs, rfl, hs, hb, hc, hl⟩ := raws_arg h0
  obtain ⟨p2, k2, ls, rfl, hs2, hb2, hc2, hl2⟩ := looks_arg h1
  obtain ⟨rfl, a1, a2⟩ := int_arg h2
  have m1 : IntKind.u16.min = 0 := by decide
  have m2 : IntKind.u16.max = 65535 := by decide
  rw [m1] at a1
  rw [m2] at a2
  obtain ⟨n, hn⟩ := Int.eq_ofNat_of_zero_le a1
  have hx := @Fn.Prices_ok onB
  have e : (x.2.2.1 : Int) = (n : Int) := hn
  rw [e, hx hs hb hl hc hs2 hb2 hl2 hc2 (by omega) rfl]

theorem law_lifted (os : Os) (started : os.Started) (H : Type) (enc : TypeId × Value → H) :
    ReturnsInHanded {} Try.checked os 4 .any (Rows.itineraryPricesSpec.pre6 enc Try.prog Try.f4 Rows.itineraryPricesRow.domain false) (Rows.itineraryPricesSpec.post enc Try.prog Try.f4 false true false false) :=
  law_returns (C := Try.checked) (E := @Fn.E onB) (tys := [.slice tRaw, .slice tLook, .int .u16]) own started (by kernel_rfl) Try.func4 rfl
    (fun ds hd => match ds, hd with | [_, _, _], _ => rfl) rfl (by kernel_rfl) (by kernel_rfl) (of_decide_eq_true (by kernel_rfl)) laidOut okEB
    (ChangeSpec.witness6 (enc := enc) (C := Try.checked) false ⟨#[], #[.slice none 0 0, .slice none 0 0, .int .u16 0], []⟩ 8 (by kernel_rfl) (by kernel_rfl) (by kernel_rfl) (by kernel_rfl)) law_run

theorem itineraryPrices_holds : Rows.ItineraryPricesSaid :=
  OpenClaim.holds_of_wide 4 Try.f4 rfl rfl rfl rfl rfl rfl rfl ⟨rfl, rfl, rfl, rfl, rfl⟩ rfl rfl rfl rfl rfl (by kernel_rfl) Try.func4 (by kernel_rfl)
    (of_decide_eq_true (by kernel_rfl)) (by unfold Func.isWrapper; first | (rw [if_pos (by decide +kernel)]; kernel_rfl) | (rw [if_neg (by decide +kernel)]; exact ⟨rfl, rfl⟩))
    (fun os started H enc _ => law_lifted os started H enc)
end Go.Proofs.Ytjmmhkodgileiab
