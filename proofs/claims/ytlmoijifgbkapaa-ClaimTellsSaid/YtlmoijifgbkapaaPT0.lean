/-
  Chapter 40: the statement ClaimTells.
  CONDITIONS: none beyond those of the rows.
-/
import Derived.Test.YtlmoijifgbkapaaPT8
namespace Go.Proofs.Ytlmoijifgbkapaa
open Go.AM Go.RowKit
set_option maxRecDepth 100000
set_option linter.unusedVariables false
set_option linter.unusedSimpArgs false
set_option maxHeartbeats 4000000

/-- What holds of all data holds of the elements of a slice. -/
theorem slice_all {t : Ty} {H : Heap} {l : List t.den} {v : Value} {α : Type} (f : t.den → α) (P : α → Prop) (hP : ∀ H x c, Rep t H x c → P (f x)) (h : RepV (.slice t) H l v) : ∀ y ∈ l.map f, P y := by
  unfold RepV at h
  rw [if_neg (by simp [isRow])] at h
  intro y hy
  obtain ⟨x, hx, rfl⟩ := List.mem_map.1 hy
  obtain ⟨c, hc⟩ := Rep.slice_mem h x hx
  exact hP H x c hc
theorem trm_pos (H : Heap) (x : tTrm.den) (c : List Value) (h : Rep tTrm H x c) : 0 ≤ (toTrm x).cls := by
  obtain ⟨c1, r1, rfl, h1, _⟩ := h
  exact h1.2.1
theorem snt_pos (H : Heap) (x : tSnt.den) (c : List Value) (h : Rep tSnt H x c) : 0 ≤ (toSnt x).cls := by
  obtain ⟨c1, r1, rfl, h1, c2, r2, rfl, h2, _⟩ := h
  exact h2.2.1
theorem clm_pos (H : Heap) (x : tClm.den) (c : List Value) (h : Rep tClm H x c) : 0 ≤ (toClm x).kind ∧ (toClm x).kind < 256 := by
  obtain ⟨c1, r1, rfl, h1, c2, r2, rfl, h2, c3, r3, rfl, h3, c4, r4, rfl, h4, _⟩ := h
  refine ⟨h4.2.1, ?_⟩
  have : IntKind.u8.max = 255 := rfl
  have h5 := h4.2.2
  rw [this] at h5
  exact Int.lt_of_le_of_lt h5 (by decide)
theorem tells_run (H : Heap) (vs : List Value) (x : dens tysLists) (h : RepAll tysLists H x vs) : CallR Fn.E false H.length 6 vs H fun v _ => v = .bool true := by
  obtain ⟨v0, _, rfl, h0, v1, _, rfl, h1, v2, _, rfl, h2, v3, _, rfl, h3, rfl⟩ := h
  have u0 := slice_all toStd (fun x => 0 ≤ x.cls) std_pos h0
  have u1 := slice_all toTrm (fun x => 0 ≤ x.cls) trm_pos h1
  have u2 := slice_all toSnt (fun x => 0 ≤ x.cls) snt_pos h2
  have u3 := slice_all toClm (fun x => 0 ≤ x.kind ∧ x.kind < 256) clm_pos h3
  obtain ⟨p0, k0, rfl, s0⟩ := slice_arg toStd Fn.encS std_enc h0
  obtain ⟨p1, k1, rfl, s1⟩ := slice_arg toTrm Fn.encT trm_enc h1
  obtain ⟨p2, k2, rfl, s2⟩ := slice_arg toSnt Fn.encN snt_enc h2
  obtain ⟨p3, k3, rfl, s3⟩ := slice_arg toClm Fn.encC clm_enc h3
  rw [Fn.ClaimTells_ok s0 s1 s2 s3 u0 u1 u2 u3 (Sl.some_of s3) (Sl.some_of s0) (Sl.some_of s1) (Sl.some_of s2)]

theorem tells_lifted (os : Os) (started : os.Started) (H : Type) (enc : TypeId × Value → H) :
    ReturnsInHanded {} Try.checked os 6 .any (Rows.claimTellsSpec.pre6 enc Try.prog Try.f6 Rows.claimTellsRow.domain false) (Rows.claimTellsSpec.post enc Try.prog Try.f6 false true false false) :=
  law_returns (C := Try.checked) (E := Fn.E) (tys := tysLists) own started (by kernel_rfl) Try.func6 rfl
    (fun ds hd => match ds, hd with | [_, _, _, _], _ => rfl) rfl (by kernel_rfl) (by kernel_rfl) (of_decide_eq_true (by kernel_rfl)) laidOut okE
    (ChangeSpec.witness6 (enc := enc) (C := Try.checked) false ⟨#[], #[.slice none 0 0, .slice none 0 0, .slice none 0 0, .slice none 0 0], []⟩ 8 (by kernel_rfl) (by kernel_rfl) (by kernel_rfl) (by kernel_rfl)) tells_run

theorem claimTells_holds : Rows.ClaimTellsSaid :=
  OpenClaim.holds_of_wide 6 Try.f6 rfl rfl rfl rfl rfl rfl rfl ⟨rfl, rfl, rfl, rfl, rfl⟩ rfl rfl rfl rfl rfl (by kernel_rfl) Try.func6 (by kernel_rfl)
    (of_decide_eq_true (by kernel_rfl)) (by unfold Func.isWrapper; first | (rw [if_pos (by decide +kernel)]; kernel_rfl) | (rw [if_neg (by decide +kernel)]; exact ⟨rfl, rfl⟩))
    (fun os started H enc _ => tells_lifted os started H enc)
end Go.Proofs.Ytlmoijifgbkapaa
