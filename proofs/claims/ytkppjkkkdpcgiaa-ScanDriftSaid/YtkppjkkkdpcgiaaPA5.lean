/-
  Joined texts, 5 of 9. A part of the claim that the last text states.
-/
import Derived.Test.YtkppjkkkdpcgiaaPA4
namespace Go.Scan
set_option maxRecDepth 100000
set_option linter.unusedVariables false
set_option linter.unusedSimpArgs false
structure Two (at' w f o : Int) : Prop where
  a1 : 40000 ≤ at'
  a2 : at' ≤ 105535
  w1 : 1 ≤ w
  w2 : w ≤ 65536
  f1 : -32768 ≤ f
  f2 : f ≤ 32767
  o1 : -32768 ≤ o
  o2 : o ≤ 32767
  dr : -w ≤ o - f
def twoM (at' w f o : Int) : List Mk := [⟨1, at', f⟩, ⟨1, at' + w, o⟩]
def timeT (at' w f o x : Int) : Int := x + (f + (o - f) * (x - at') / w)
theorem two_ok {at' w f o : Int} (h : Two at' w f o) : MarksOk (twoM at' w f o) := by
  have a1 := h.a1; have a2 := h.a2; have w1 := h.w1; have w2 := h.w2; have f1 := h.f1; have f2 := h.f2; have o1 := h.o1; have o2 := h.o2
  refine ⟨fun m hm => ?_, ?_⟩
  · unfold twoM at hm
    rcases List.mem_cons.mp hm with rfl | hm
    · unfold fineM maxT; simp only; omega
    · rw [List.mem_singleton] at hm; subst hm
      unfold fineM maxT; simp only; omega
  · unfold twoM
    refine List.pairwise_cons.mpr ⟨fun b hb => ?_, List.pairwise_singleton _ _⟩
    rw [List.mem_singleton] at hb; subst hb
    exact .inr ⟨rfl, by show at' < at' + w; omega⟩
theorem two_fine {at' w f o x : Int} (h : Two at' w f o) (h1 : at' ≤ x) (h2 : x ≤ at' + w) : FineE (oneS 1 x 1000000) := by
  have a1 := h.a1; have a2 := h.a2; have w2 := h.w2
  unfold FineE oneS maxT; simp only; omega
theorem two_in {at' w f o x : Int} (h : Two at' w f o) (h1 : at' ≤ x) (h2 : x ≤ at' + w) : min f o ≤ f + (o - f) * (x - at') / w ∧ f + (o - f) * (x - at') / w ≤ max f o := by
  have w1 := h.w1
  have := drift_in (D := o - f) (w := w) (k := x - at') (by omega) (by omega) (by omega)
  omega
theorem two_time {at' w f o x : Int} (h : Two at' w f o) (h1 : at' ≤ x) (h2 : x ≤ at' + w) : timeN (twoM at' w f o) (oneS 1 x 1000000) = timeT at' w f o x := by
  have a1 := h.a1; have a2 := h.a2; have w1 := h.w1; have w2 := h.w2; have f1 := h.f1; have f2 := h.f2; have o1 := h.o1; have o2 := h.o2
  have hin := two_in h h1 h2
  have e := off_two (m := ⟨1, at', f⟩) (n := ⟨1, at' + w, o⟩) (x := x) (by intro q; have h0 : (1 : Int) = 0 := congrArg Mk.scanner q; omega) rfl (by show at' < at' + w; omega) h1 h2
  simp only at e
  rw [show at' + w - at' = w by omega] at e
  unfold timeN timeT twoM
  have e2 : offN [⟨1, at', f⟩, ⟨1, at' + w, o⟩] (oneS 1 x 1000000).scanner (oneS 1 x 1000000).at' = f + (o - f) * (x - at') / w := e
  rw [e2]
  generalize f + (o - f) * (x - at') / w = q at *
  show min (max (x + q) 0) 1000000 = x + q
  omega
theorem two_mono {at' w f o x y : Int} (h : Two at' w f o) (hxy : x ≤ y) : timeT at' w f o x ≤ timeT at' w f o y := by
  have w1 := h.w1
  have := drift_mono (D := o - f) (w := w) (k := x - at') (l := y - at') (by omega) h.dr (by omega)
  unfold timeT; omega
theorem two_low {at' w f o : Int} : timeT at' w f o at' = at' + f := by
  unfold timeT
  rw [Int.sub_self, Int.mul_zero, Int.zero_ediv]; omega
theorem two_high {at' w f o : Int} (h : Two at' w f o) : timeT at' w f o (at' + w) = at' + w + o := by
  have w1 := h.w1
  unfold timeT
  rw [show at' + w - at' = w by omega, Int.mul_ediv_cancel _ (by omega)]; omega
end Go.Scan

