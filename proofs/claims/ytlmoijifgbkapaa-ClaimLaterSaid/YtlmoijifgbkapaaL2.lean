/-
  Chapter 40: the statement ClaimLater.
  CONDITIONS: none beyond those of the rows.
-/
import Derived.Test.YtlmoijifgbkapaaL1
import Derived.Test.YtlmoijifgbkapaaC8
namespace Go.Proofs.Ytlmoijifgbkapaa
open Go.AM Go.RowKit
set_option maxRecDepth 100000
set_option linter.unusedVariables false
set_option linter.unusedSimpArgs false
set_option maxHeartbeats 4000000

abbrev tTrm : Ty := .pair (.int .u8) (.pair (.int .i64) (.pair (.int .i64) (.pair (.int .i64) (.pair (.int .i64) (.pair (.int .i64) (.pair (.int .i64) .nil))))))
abbrev tSnt : Ty := .pair (.int .i64) (.pair (.int .u8) (.pair (.int .i64) (.pair (.int .i64) (.pair (.int .i64) (.pair (.int .i64) .nil)))))
abbrev tClm : Ty := .pair (.int .i64) (.pair (.int .i64) (.pair (.int .i64) (.pair (.int .u8) (.pair (.int .i64) (.pair (.int .i64) .nil)))))
def toTrm (x : tTrm.den) : Fn.Trm := ⟨x.1, x.2.1, x.2.2.1, x.2.2.2.1, x.2.2.2.2.1, x.2.2.2.2.2.1, x.2.2.2.2.2.2.1⟩
def toSnt (x : tSnt.den) : Fn.Snt := ⟨x.1, x.2.1, x.2.2.1, x.2.2.2.1, x.2.2.2.2.1, x.2.2.2.2.2.1⟩
def toClm (x : tClm.den) : Fn.Clm := ⟨x.1, x.2.1, x.2.2.1, x.2.2.2.1, x.2.2.2.2.1, x.2.2.2.2.2.1⟩
theorem trm_enc (H : Heap) (x : tTrm.den) (c : List Value) (h : Rep tTrm H x c) : c = Fn.encT (toTrm x) := by
  obtain ⟨c1, r1, rfl, h1, c2, r2, rfl, h2, c3, r3, rfl, h3, c4, r4, rfl, h4, c5, r5, rfl, h5, c6, r6, rfl, h6, c7, r7, rfl, h7, h8⟩ := h
  simp only [Rep] at h1 h2 h3 h4 h5 h6 h7 h8
  rw [h1.1, h2.1, h3.1, h4.1, h5.1, h6.1, h7.1, h8]
  rfl
theorem snt_enc (H : Heap) (x : tSnt.den) (c : List Value) (h : Rep tSnt H x c) : c = Fn.encN (toSnt x) := by
  obtain ⟨c1, r1, rfl, h1, c2, r2, rfl, h2, c3, r3, rfl, h3, c4, r4, rfl, h4, c5, r5, rfl, h5, c6, r6, rfl, h6, h7⟩ := h
  simp only [Rep] at h1 h2 h3 h4 h5 h6 h7
  rw [h1.1, h2.1, h3.1, h4.1, h5.1, h6.1, h7]
  rfl
theorem clm_enc (H : Heap) (x : tClm.den) (c : List Value) (h : Rep tClm H x c) : c = Fn.encC (toClm x) := by
  obtain ⟨c1, r1, rfl, h1, c2, r2, rfl, h2, c3, r3, rfl, h3, c4, r4, rfl, h4, c5, r5, rfl, h5, c6, r6, rfl, h6, h7⟩ := h
  simp only [Rep] at h1 h2 h3 h4 h5 h6 h7
  rw [h1.1, h2.1, h3.1, h4.1, h5.1, h6.1, h7]
  rfl
theorem slice_arg {t : Ty} {H : Heap} {l : List t.den} {v : Value} {α : Type} (f : t.den → α) (enc : α → List Value) (he : ∀ H x c, Rep t H x c → c = enc (f x)) (h : RepV (.slice t) H l v) : ∃ p cap, v = .slice p (l.map f).length cap ∧ Sl H enc t.size p (l.map f) := by
  unfold RepV at h
  rw [if_neg (by simp [isRow])] at h
  obtain ⟨p, cap, e, h1, _⟩ := Rep.sl f enc he h
  cases e
  exact ⟨p, cap, rfl, h1⟩
abbrev tysLater : List Ty := [.slice tStd, .slice tTrm, .slice tSnt, tClm, .int .i64]
theorem later_run (H : Heap) (vs : List Value) (x : dens tysLater) (h : RepAll tysLater H x vs) : CallR Fn.E false H.length 4 vs H fun v _ => v = .bool true := by
  obtain ⟨v0, _, rfl, h0, v1, _, rfl, h1, v2, _, rfl, h2, v3, _, rfl, h3, v4, _, rfl, h4, rfl⟩ := h
  obtain ⟨p0, k0, rfl, s0⟩ := slice_arg toStd Fn.encS std_enc h0
  obtain ⟨p1, k1, rfl, s1⟩ := slice_arg toTrm Fn.encT trm_enc h1
  obtain ⟨p2, k2, rfl, s2⟩ := slice_arg toSnt Fn.encN snt_enc h2
  obtain ⟨cs, rfl, h3⟩ := h3
  obtain ⟨rfl, _⟩ := int_arg h4
  have e3 := clm_enc H _ _ h3
  rw [e3]
  exact (Fn.ClaimLater_ok (c := toClm x.2.2.2.1) (Q := fun v _ => v = .bool true) s0 s1 s2 (by
    intro hne hp
    rw [hp] at s2
    exact hne s2)) ▸ rfl

theorem later_lifted (os : Os) (started : os.Started) (H : Type) (enc : TypeId × Value → H) :
    ReturnsInHanded {} Try.checked os 4 .any (Rows.claimLaterSpec.pre6 enc Try.prog Try.f4 Rows.claimLaterRow.domain false) (Rows.claimLaterSpec.post enc Try.prog Try.f4 false true false false) :=
  law_returns (C := Try.checked) (E := Fn.E) (tys := tysLater) own started (by kernel_rfl) Try.func4 rfl
    (fun ds hd => match ds, hd with | [_, _, _, _, _], _ => rfl) rfl (by kernel_rfl) (by kernel_rfl) (of_decide_eq_true (by kernel_rfl)) laidOut okE
    (ChangeSpec.witness6 (enc := enc) (C := Try.checked) false ⟨#[], #[.slice none 0 0, .slice none 0 0, .slice none 0 0, .agg #[.int .i64 0, .int .i64 0, .int .i64 0, .int .u8 0, .int .i64 0, .int .i64 0], .int .i64 0], []⟩ 8 (by kernel_rfl) (by kernel_rfl) (by kernel_rfl) (by kernel_rfl)) later_run

theorem claimLater_holds : Rows.ClaimLaterSaid :=
  OpenClaim.holds_of_wide 4 Try.f4 rfl rfl rfl rfl rfl rfl rfl ⟨rfl, rfl, rfl, rfl, rfl⟩ rfl rfl rfl rfl rfl (by kernel_rfl) Try.func4 (by kernel_rfl)
    (of_decide_eq_true (by kernel_rfl)) (by unfold Func.isWrapper; first | (rw [if_pos (by decide +kernel)]; kernel_rfl) | (rw [if_neg (by decide +kernel)]; exact ⟨rfl, rfl⟩))
    (fun os started H enc _ => later_lifted os started H enc)
end Go.Proofs.Ytlmoijifgbkapaa
