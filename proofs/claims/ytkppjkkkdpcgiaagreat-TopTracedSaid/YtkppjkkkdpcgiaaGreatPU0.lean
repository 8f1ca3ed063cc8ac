/-
  Chapter 39: the statement TopTraced.
  CONDITIONS: none beyond those of the rows.
-/
import Derived.Test.YtkppjkkkdpcgiaaGreatPU10
namespace Go.Proofs.YtkppjkkkdpcgiaaGreat
open Go.AM Go.AM.Sym Go.RowKit
set_option maxRecDepth 100000
set_option linter.unusedVariables false
set_option linter.unusedSimpArgs false
set_option maxHeartbeats 4000000

theorem YH {k : IntKind} {enc : Int → List Value} (he : ∀ x, enc x = [.int k x]) {H : NA} {l : List (Ty.int k).den} {cs : List Value} (h : WC (.slice (.int k)) H l cs) : ∃ p c, ∃ rs : List Int, cs = [.slice p rs.length c] ∧ Sl H enc 1 p rs ∧ (∀ x ∈ rs, k.min ≤ x ∧ x ≤ k.max) ∧ rs.length < 2 ^ 63 := by
  have hh : ∀ H (x : (Ty.int k).den) c, WC (.int k) H x c → c = enc (id x) := fun H x c h => by rw [he]; exact h.1
  obtain ⟨p0, j1, e1, _⟩ := WC.sl (t := .int k) id enc hh h
  have a1 : Xa (.slice (.int k)) H l (.slice p0 (List.map id l).length j1) := by unfold Xa; rw [if_neg (by simp [isRow]), ← e1]; exact h
  obtain ⟨p, k1, d1, s1, _, l1⟩ := Ngn (t := .int k) id enc hh a1
  rw [d1] at e1
  refine ⟨p, k1, _, e1, s1, fun x hx => ?_, l1⟩
  obtain ⟨y, hy, rfl⟩ := List.mem_map.1 hx
  obtain ⟨c, hc⟩ := WC.slice_mem h y hy
  exact ⟨hc.2.1, hc.2.2⟩
abbrev Nj1 : Ty := .pair (.int .u8) (.pair (.int .u8) (.pair (.slice (.int .i8)) (.pair (.slice (.int .u8)) (.pair (.slice (.int .u8)) (.pair (.slice (.int .u8)) .nil)))))
theorem Nwg {H : NA} {x : Nj1.den} {v : Value} (h : Xa Nj1 H x v) : ∃ u1 u2 p1 c1 p2 c2 p3 c3 p4 c4, ∃ C La Tw ds : List Int, v = .agg #[.int .u8 u1, .int .u8 u2, .slice p1 C.length c1, .slice p2 La.length c2, .slice p3 Tw.length c3, .slice p4 ds.length c4] ∧ (0 ≤ u1 ∧ u1 ≤ 255) ∧ (0 ≤ u2 ∧ u2 ≤ 255) ∧ (Sl H Fn.encY 1 p1 C ∧ (∀ x ∈ C, -128 ≤ x ∧ x ≤ 127) ∧ C.length < 2 ^ 63) ∧ (Sl H Fn.encU 1 p2 La ∧ (∀ x ∈ La, 0 ≤ x ∧ x ≤ 255) ∧ La.length < 2 ^ 63) ∧ (Sl H Fn.encU 1 p3 Tw ∧ (∀ x ∈ Tw, 0 ≤ x ∧ x ≤ 255) ∧ Tw.length < 2 ^ 63) ∧ Sl H Fn.encU 1 p4 ds ∧ (∀ x ∈ ds, 0 ≤ x ∧ x ≤ 255) ∧ ds.length < 2 ^ 63 := by
  obtain ⟨cs, rfl, hr⟩ := h.row rfl
  obtain ⟨a1, r1, rfl, h1, a2, r2, rfl, h2, a3, r3, rfl, h3, a4, r4, rfl, h4, a5, r5, rfl, h5, a6, r6, rfl, h6, h7⟩ := hr
  have e7 := WC.nil_of h7
  subst e7
  obtain ⟨rfl, b1⟩ := WC.int_of h1
  obtain ⟨rfl, b2⟩ := WC.int_of h2
  obtain ⟨p1, c1, C, rfl, g1⟩ := YH (enc := Fn.encY) (fun _ => rfl) h3
  obtain ⟨p2, c2, La, rfl, g2⟩ := YH (enc := Fn.encU) (fun _ => rfl) h4
  obtain ⟨p3, c3, Tw, rfl, g3⟩ := YH (enc := Fn.encU) (fun _ => rfl) h5
  obtain ⟨p4, c4, ds, rfl, g4⟩ := YH (enc := Fn.encU) (fun _ => rfl) h6
  exact ⟨_, _, p1, c1, p2, c2, p3, c3, p4, c4, C, La, Tw, ds, rfl, b1, b2, g1, g2, g3, g4⟩
theorem N6a : @Fn.EffOk mid := fun _ _ _ => rfl
theorem law_run (H : NA) (vs : List Value) (x : N6d [.slice Nc9, Nj1]) (h : Njk [.slice Nc9, Nj1] H x vs) : NP (@Fn.E mid.toOA) false H.length 3 vs H fun v _ => v = .bool true := by
  obtain ⟨v0, _, rfl, g0, v1, _, rfl, g1, rfl⟩ := h
  obtain ⟨p0, k0, rs, rfl, s0, b0, c0, l0⟩ := Nwy g0
  obtain ⟨u1, u2, p1, c1, p2, c2, p3, c3, p4, c4, C, La, Tw, ds, rfl, z1, z2, ⟨y1, y2, y3⟩, ⟨y4, y5, y6⟩, ⟨y7, y8, y9⟩, t1, t2, t3⟩ := Nwg g1
  have hx := @Fn.TopTraced_ok mid
  rw [hx N6a s0 b0 l0 c0 z1 z2 y1 y4 y7 t1 y3 y6 y9 t3 y2 y5 y8 t2]

theorem law_lifted (os : Os) (started : os.Started) (H : Type) (enc : TypeId × Value → H) :
    ReturnsInHanded {} Tryz.checked os 3 .any (Rows.topTracedSpec.pre6 enc Tryz.prog Tryz.f3 Rows.topTracedRow.domain false) (Rows.topTracedSpec.post enc Tryz.prog Tryz.f3 false true false false) :=
  Nlr (C := Tryz.checked) (E := @Fn.E mid.toOA) (tys := [.slice Nc9, Nj1]) own started (by kernel_rfl) Tryz.func3 rfl
    (fun ds hd => match ds, hd with | [_, _], _ => rfl) rfl (by kernel_rfl) (by kernel_rfl) (of_decide_eq_true (by kernel_rfl)) laidOut N7y
    (ChangeSpec.witness6 (enc := enc) (C := Tryz.checked) false ⟨#[], #[.slice none 0 0, .agg #[.int .u8 0, .int .u8 0, .slice none 0 0, .slice none 0 0, .slice none 0 0, .slice none 0 0]], []⟩ 8 (by kernel_rfl) (by kernel_rfl) (by kernel_rfl) (by kernel_rfl)) law_run

theorem topTraced_holds : Rows.TopTracedSaid :=
  OpenClaim.holds_of_wide 3 Tryz.f3 rfl rfl rfl rfl rfl rfl rfl ⟨rfl, rfl, rfl, rfl, rfl⟩ rfl rfl rfl rfl rfl (by kernel_rfl) Tryz.func3 (by kernel_rfl)
    (of_decide_eq_true (by kernel_rfl)) (by unfold Func.isWrapper; first | (rw [if_pos (by decide +kernel)]; kernel_rfl) | (rw [if_neg (by decide +kernel)]; exact ⟨rfl, rfl⟩))
    (fun os started H enc _ => law_lifted os started H enc)
end Go.Proofs.YtkppjkkkdpcgiaaGreat
