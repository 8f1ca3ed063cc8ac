/-
  Chapter 38: the statement ItineraryTells.
  CONDITIONS: none beyond those of the rows.
-/
import Derived.Test.YtjmmhkodgileiabPB9
namespace Go.Proofs.Ytjmmhkodgileiab
open Go.AM Go.RowKit
set_option maxRecDepth 100000
set_option linter.unusedVariables false
set_option linter.unusedSimpArgs false
set_option maxHeartbeats 4000000

abbrev tLeg : Ty := .pair (.int .i64) (.pair (.int .i64) (.pair (.int .i64) (.pair (.int .i64) (.pair (.int .i64) (.pair (.int .i64) (.pair (.int .i64) (.pair (.int .u8) .nil)))))))
def toLeg (x : tLeg.den) : Go.Net.Leg := ⟨x.1, x.2.1, x.2.2.1, x.2.2.2.1, x.2.2.2.2.1, x.2.2.2.2.2.1, x.2.2.2.2.2.2.1, x.2.2.2.2.2.2.2.1⟩
theorem leg_enc (H : Heap) (x : tLeg.den) (c : List Value) (h : Rep tLeg H x c) : c = Fn.encL (toLeg x) := by
  obtain ⟨c1, r1, rfl, h1, c2, r2, rfl, h2, c3, r3, rfl, h3, c4, r4, rfl, h4, c5, r5, rfl, h5, c6, r6, rfl, h6, c7, r7, rfl, h7, c8, r8, rfl, h8, h9⟩ := h
  simp only [Rep] at h1 h2 h3 h4 h5 h6 h7 h8 h9
  rw [h1.1, h2.1, h3.1, h4.1, h5.1, h6.1, h7.1, h8.1, h9]
  rfl
theorem leg_by (H : Heap) (x : tLeg.den) (c : List Value) (h : Rep tLeg H x c) : Fn.By (toLeg x) := by
  obtain ⟨c1, r1, rfl, h1, c2, r2, rfl, h2, c3, r3, rfl, h3, c4, r4, rfl, h4, c5, r5, rfl, h5, c6, r6, rfl, h6, c7, r7, rfl, h7, c8, r8, rfl, h8, h9⟩ := h
  simp only [Rep] at h8
  exact ⟨h8.2.1, h8.2.2⟩
abbrev tNet : Ty := .pair (.slice (.int .i64)) (.pair (.slice tLeg) .nil)
theorem net_arg {H : Heap} {x : tNet.den} {v : Value} (h : RepV tNet H x v) : ∃ pp cp pl cl, ∃ (P : List Int) (L : List Go.Net.Leg), v = .agg (Fn.netV pp P.length cp pl L.length cl).toArray ∧ Fn.NetIn H pp pl P L ∧ CapOk 8 cl L.length ∧ CapOk 1 cp P.length := by
  obtain ⟨cs, rfl, hr⟩ := h.row rfl
  obtain ⟨c1, r1, rfl, h1, c2, r2, rfl, h2, h3⟩ := hr
  have e3 := Rep.nil_of h3
  subst e3
  obtain ⟨p0, j1, e1, _⟩ := Rep.sl (t := .int .i64) id Fn.encI int_enc h1
  obtain ⟨q0, j2, e2, _⟩ := Rep.sl (t := tLeg) toLeg Fn.encL leg_enc h2
  have a1 : RepV (.slice (.int .i64)) H x.1 (.slice p0 (List.map id x.1).length j1) := by unfold RepV; rw [if_neg (by decide), ← e1]; exact h1
  have a2 : RepV (.slice tLeg) H x.2.1 (.slice q0 (List.map toLeg x.2.1).length j2) := by unfold RepV; rw [if_neg (by decide), ← e2]; exact h2
  obtain ⟨p, k1, d1, s1, q1, l1⟩ := slice_arg (t := .int .i64) id Fn.encI int_enc a1
  obtain ⟨q, k2, d2, s2, q2, l2⟩ := slice_arg (t := tLeg) toLeg Fn.encL leg_enc a2
  rw [d1] at e1
  rw [d2] at e2
  refine ⟨p, k1, q, k2, _, _, ?_, ⟨s1, s2, l1, l2, fun l hl => ?_⟩, q2, q1⟩
  · rw [e1, e2]; rfl
  · obtain ⟨y, hy, rfl⟩ := List.mem_map.1 hl
    obtain ⟨c, hc⟩ := Rep.slice_mem h2 y hy
    exact leg_by H y c hc
abbrev tScan : Ty := .pair (.int .i64) (.pair (.int .i64) (.pair (.int .i64) (.pair (.int .u8) (.pair (.int .i64) (.pair (.int .i64) .nil)))))
abbrev tEv : Ty := .pair tScan (.pair (.int .i64) .nil)
def toEv (x : tEv.den) : Fn.Ev := ⟨x.1.1, x.1.2.1, x.1.2.2.1, x.1.2.2.2.1, x.1.2.2.2.2.1, x.1.2.2.2.2.2.1, x.2.1⟩
theorem ev_enc (H : Heap) (x : tEv.den) (c : List Value) (h : Rep tEv H x c) : c = Fn.encE (toEv x) := by
  obtain ⟨cs, rs, rfl, ⟨c1, r1, rfl, h1, c2, r2, rfl, h2, c3, r3, rfl, h3, c4, r4, rfl, h4, c5, r5, rfl, h5, c6, r6, rfl, h6, h7⟩, c8, r8, rfl, h8, h9⟩ := h
  simp only [Rep] at h1 h2 h3 h4 h5 h6 h7 h8 h9
  rw [h1.1, h2.1, h3.1, h4.1, h5.1, h6.1, h7, h8.1, h9]
  rfl
theorem evs_arg {H : Heap} {l : List tEv.den} {v : Value} (h : RepV (.slice tEv) H l v) : ∃ p k, ∃ rs : List Fn.Ev, v = .slice p rs.length k ∧ Sl H Fn.encE 7 p rs ∧ CapOk 7 k rs.length ∧ rs.length < 2 ^ 63 := by
  obtain ⟨p, k, e, h1, h3, h2⟩ := slice_arg (t := tEv) toEv Fn.encE ev_enc h
  exact ⟨p, k, _, e, h1, h3, h2⟩
theorem ints_arg {H : Heap} {l : List (Ty.int .i64).den} {v : Value} (h : RepV (.slice (.int .i64)) H l v) : ∃ p k, ∃ rs : List Int, v = .slice p rs.length k ∧ Sl H Fn.encI 1 p rs ∧ rs.length < 2 ^ 63 := by
  obtain ⟨p, k, e, h1, h3, h2⟩ := slice_arg (t := .int .i64) id Fn.encI int_enc h
  exact ⟨p, k, _, e, h1, h2⟩
theorem law_run (H : Heap) (vs : List Value) (x : dens [tNet, .slice tEv, .slice (.int .i64)]) (h : RepAll [tNet, .slice tEv, .slice (.int .i64)] H x vs) : CallR (@Fn.E onB) false H.length 3 vs H fun v _ => v = .bool true := by
  obtain ⟨v0, _, rfl, h0, v1, _, rfl, h1, v2, _, rfl, h2, rfl⟩ := h
  obtain ⟨pp, cp, pl, cl, P, L, rfl, hn, _, _⟩ := net_arg h0
  obtain ⟨pe, ce, es, rfl, hs, hce, hsl⟩ := evs_arg h1
  obtain ⟨pk, ck, ks, rfl, hk, hkl⟩ := ints_arg h2
  have hx := @Fn.Tells_ok onB
  rw [hx hn hs hsl hce hk hkl rfl]

theorem law_lifted (os : Os) (started : os.Started) (H : Type) (enc : TypeId × Value → H) :
    ReturnsInHanded {} Try.checked os 3 .any (Rows.itineraryTellsSpec.pre6 enc Try.prog Try.f3 Rows.itineraryTellsRow.domain false) (Rows.itineraryTellsSpec.post enc Try.prog Try.f3 false true false false) :=
  law_returns (C := Try.checked) (E := @Fn.E onB) (tys := [tNet, .slice tEv, .slice (.int .i64)]) own started (by kernel_rfl) Try.func3 rfl
    (fun ds hd => match ds, hd with | [_, _, _], _ => rfl) rfl (by kernel_rfl) (by kernel_rfl) (of_decide_eq_true (by kernel_rfl)) laidOut okEB
    (ChangeSpec.witness6 (enc := enc) (C := Try.checked) false ⟨#[], #[.agg #[.slice none 0 0, .slice none 0 0], .slice none 0 0, .slice none 0 0], []⟩ 8 (by kernel_rfl) (by kernel_rfl) (by kernel_rfl) (by kernel_rfl)) law_run

theorem itineraryTells_holds : Rows.ItineraryTellsSaid :=
  OpenClaim.holds_of_wide 3 Try.f3 rfl rfl rfl rfl rfl rfl rfl ⟨rfl, rfl, rfl, rfl, rfl⟩ rfl rfl rfl rfl rfl (by kernel_rfl) Try.func3 (by kernel_rfl)
    (of_decide_eq_true (by kernel_rfl)) (by unfold Func.isWrapper; first | (rw [if_pos (by decide +kernel)]; kernel_rfl) | (rw [if_neg (by decide +kernel)]; exact ⟨rfl, rfl⟩))
    (fun os started H enc _ => law_lifted os started H enc)
end Go.Proofs.Ytjmmhkodgileiab
