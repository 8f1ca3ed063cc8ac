/-
  Chapter 39: the statement AnomalyTells.
  CONDITIONS: none beyond those of the rows.
-/
import Derived.Test.YtkppjkkkdpcgiaaGreatPT11
namespace Go.Proofs.YtkppjkkkdpcgiaaGreat
open Go.AM Go.AM.Sym Go.RowKit
set_option maxRecDepth 100000
set_option linter.unusedVariables false
set_option linter.unusedSimpArgs false
set_option maxHeartbeats 4000000

theorem Ntd (H : NA) (x : (Ty.int .i64).den) (c : List Value) (h : Y2 (.int .i64) H x c) : c = Fn.encI (id x) := h.1
abbrev Njc : Ty := .pair (.int .i64) (.pair (.int .i64) (.pair (.int .i64) (.pair (.int .i64) (.pair (.int .i64) (.pair (.int .i64) (.pair (.int .i64) (.pair (.int .u8) .nil)))))))
def Nlg (x : Njc.den) : Go.Net.Leg := ⟨x.1, x.2.1, x.2.2.1, x.2.2.2.1, x.2.2.2.2.1, x.2.2.2.2.2.1, x.2.2.2.2.2.2.1, x.2.2.2.2.2.2.2.1⟩
theorem Ns8 (H : NA) (x : Njc.den) (c : List Value) (h : Y2 Njc H x c) : c = Fn.encL (Nlg x) := by
  obtain ⟨c1, r1, rfl, h1, c2, r2, rfl, h2, c3, r3, rfl, h3, c4, r4, rfl, h4, c5, r5, rfl, h5, c6, r6, rfl, h6, c7, r7, rfl, h7, c8, r8, rfl, h8, h9⟩ := h
  simp only [Y2] at h1 h2 h3 h4 h5 h6 h7 h8 h9
  rw [h1.1, h2.1, h3.1, h4.1, h5.1, h6.1, h7.1, h8.1, h9]
  rfl
theorem Oaf (H : NA) (x : Njc.den) (c : List Value) (h : Y2 Njc H x c) : Fn.By (Nlg x) := by
  obtain ⟨c1, r1, rfl, h1, c2, r2, rfl, h2, c3, r3, rfl, h3, c4, r4, rfl, h4, c5, r5, rfl, h5, c6, r6, rfl, h6, c7, r7, rfl, h7, c8, r8, rfl, h8, h9⟩ := h
  simp only [Y2] at h8
  exact ⟨h8.2.1, h8.2.2⟩
abbrev Nyj : Ty := .pair (.slice (.int .i64)) (.pair (.slice Njc) .nil)
theorem N51 {H : NA} {x : Nyj.den} {v : Value} (h : We Nyj H x v) : ∃ pp cp pl cl, ∃ (P : List Int) (L : List Go.Net.Leg), v = .agg (Fn.netV pp P.length cp pl L.length cl).toArray ∧ Fn.NetIn H pp pl P L ∧ WU 8 cl L.length ∧ WU 1 cp P.length := by
  obtain ⟨cs, rfl, hr⟩ := h.row rfl
  obtain ⟨c1, r1, rfl, h1, c2, r2, rfl, h2, h3⟩ := hr
  have e3 := Y2.nil_of h3
  subst e3
  obtain ⟨p0, j1, e1, _⟩ := Y2.sl (t := .int .i64) id Fn.encI Ntd h1
  obtain ⟨q0, j2, e2, _⟩ := Y2.sl (t := Njc) Nlg Fn.encL Ns8 h2
  have a1 : We (.slice (.int .i64)) H x.1 (.slice p0 (List.map id x.1).length j1) := by unfold We; rw [if_neg (by decide), ← e1]; exact h1
  have a2 : We (.slice Njc) H x.2.1 (.slice q0 (List.map Nlg x.2.1).length j2) := by unfold We; rw [if_neg (by decide), ← e2]; exact h2
  obtain ⟨p, k1, d1, s1, q1, l1⟩ := Nba (t := .int .i64) id Fn.encI Ntd a1
  obtain ⟨q, k2, d2, s2, q2, l2⟩ := Nba (t := Njc) Nlg Fn.encL Ns8 a2
  rw [d1] at e1
  rw [d2] at e2
  refine ⟨p, k1, q, k2, _, _, ?_, ⟨s1, s2, l1, l2, fun l hl => ?_⟩, q2, q1⟩
  · rw [e1, e2]; rfl
  · obtain ⟨y, hy, rfl⟩ := List.mem_map.1 hl
    obtain ⟨c, hc⟩ := Y2.slice_mem h2 y hy
    exact Oaf H y c hc
abbrev ML : Ty := .pair (.int .i64) (.pair (.int .i64) (.pair (.int .i64) (.pair (.int .u8) (.pair (.int .i64) (.pair (.int .i64) .nil)))))
def Nyd (x : ML.den) : Go.Scan.Ev := ⟨x.1, x.2.1, x.2.2.1, x.2.2.2.1, x.2.2.2.2.1, x.2.2.2.2.2.1, 0⟩
theorem Nyt (H : NA) (x : ML.den) (c : List Value) (h : Y2 ML H x c) : c = Fn.encN (Nyd x) := by
  obtain ⟨c1, r1, rfl, h1, c2, r2, rfl, h2, c3, r3, rfl, h3, c4, r4, rfl, h4, c5, r5, rfl, h5, c6, r6, rfl, h6, h7⟩ := h
  simp only [Y2] at h1 h2 h3 h4 h5 h6 h7
  rw [h1.1, h2.1, h3.1, h4.1, h5.1, h6.1, h7]
  rfl
theorem Nud {H : NA} {l : List ML.den} {v : Value} (h : We (.slice ML) H l v) : ∃ p k, ∃ rs : List Go.Scan.Ev, v = .slice p rs.length k ∧ Sl H Fn.encN 6 p rs := by
  obtain ⟨p, k, e, h1, h3, h2⟩ := Nba (t := ML) Nyd Fn.encN Nyt h
  exact ⟨p, k, _, e, h1⟩
theorem law_run (H : NA) (vs : List Value) (x : Oar [Nyj, .slice ML, .int .i64, .int .i64, .int .u8]) (h : Nkx [Nyj, .slice ML, .int .i64, .int .i64, .int .u8] H x vs) : NQ (@Fn.E Nmf.toOA) false H.length 4 vs H fun v _ => v = .bool true := by
  obtain ⟨v0, _, rfl, g0, v1, _, rfl, g1, v2, _, rfl, g2, v3, _, rfl, g3, v4, _, rfl, g4, rfl⟩ := h
  obtain ⟨pp, cp, pl, cl, P, L, rfl, hn, _, _⟩ := N51 g0
  obtain ⟨ps, cs, S, rfl, hs⟩ := Nud g1
  obtain ⟨rfl, b2⟩ := Nkc g2
  obtain ⟨rfl, b3⟩ := Nkc g3
  obtain ⟨rfl, b4⟩ := Nkc g4
  rw [(@Fn.AnomalyTells_ok _ _ _ _ _ _ _ _ _ _ _ _ _ Nmf) Odk rfl hn hs b4]

theorem law_lifted (os : Os) (started : os.Started) (H : Type) (enc : TypeId × Value → H) :
    ReturnsInHanded {} Tryz.checked os 4 .any (Rows.anomalyTellsSpec.pre6 enc Tryz.prog Tryz.f4 Rows.anomalyTellsRow.domain false) (Rows.anomalyTellsSpec.post enc Tryz.prog Tryz.f4 false true false false) :=
  Nm9 (C := Tryz.checked) (E := @Fn.E Nmf.toOA) (tys := [Nyj, .slice ML, .int .i64, .int .i64, .int .u8]) own started (by kernel_rfl) Tryz.func4 rfl
    (fun ds hd => match ds, hd with | [_, _, _, _, _], _ => rfl) rfl (by kernel_rfl) (by kernel_rfl) (of_decide_eq_true (by kernel_rfl)) laidOut Oc1
    (ChangeSpec.witness6 (enc := enc) (C := Tryz.checked) false ⟨#[], #[.agg #[.slice none 0 0, .slice none 0 0], .slice none 0 0, .int .i64 0, .int .i64 0, .int .u8 0], []⟩ 8 (by kernel_rfl) (by kernel_rfl) (by kernel_rfl) (by kernel_rfl)) law_run

theorem anomalyTells_holds : Rows.AnomalyTellsSaid :=
  OpenClaim.holds_of_wide 4 Tryz.f4 rfl rfl rfl rfl rfl rfl rfl ⟨rfl, rfl, rfl, rfl, rfl⟩ rfl rfl rfl rfl rfl (by kernel_rfl) Tryz.func4 (by kernel_rfl)
    (of_decide_eq_true (by kernel_rfl)) (by unfold Func.isWrapper; first | (rw [if_pos (by decide +kernel)]; kernel_rfl) | (rw [if_neg (by decide +kernel)]; exact ⟨rfl, rfl⟩))
    (fun os started H enc _ => law_lifted os started H enc)
end Go.Proofs.YtkppjkkkdpcgiaaGreat
